/- The functions of the laws, each as a plain function of data (F), and that the program's text does what F says. Printed by a program (wip/tools/gen.py). -/
import Derived.Test.YtopmpmbdkieenaaGreatDoorGt
namespace Go.Proofs.YtopmpmbdkieenaaGreatDoor
open Go Go.RowKit S Go.Proofs
set_option maxRecDepth 100000
set_option linter.unusedVariables false
abbrev P_a : List PK := [.val Y28, .val YI]
abbrev R_a : List VK := [.s (.dat YI)]
def F_a (x : denP P_a) : FO P_a R_a :=
 let v1 := ((x.1.length : Nat) : Int)
 let v2 := (IntKind.i64.wrap (x.2.1 - v1))
 if (ltI v2 (0 : Int)) then
  some (((-1 : Int), ()), ())
 else
  some ((v2, ()), ())
abbrev C_a : Con := ⟨P_a, R_a, F_a, false⟩
abbrev G_a : Env := []
theorem g_a : Qe Tryz.prog G_a := Qd
theorem r_a (x) : Qv T G_a [] Tryz.f14 C_a.ps C_a.rs x = C_a.F x := by kernel_rfl
theorem s_a : Qb Tryz.prog 14 C_a := fnC (L := []) hT g_a Tryz.f14 okP r_a
abbrev P_b : List PK := [.val Y22, .val YI]
abbrev i_b_5 : Shp := { slots := [(0, .s (.dat Y22)), (1, .s (.dat YI)), (5, .s (.dat YI))], boxes := [], rows := [] }
abbrev o_b_5 : List (Ex × Shp) := [(.exit 0, { slots := [(1, .s (.dat YI))], boxes := [], rows := [] }), (.ret, { slots := [(4, .s (.dat YI))], boxes := [], rows := [] })]
def l_b_5 (rec : i_b_5.den → Option (denO o_b_5)) (u : i_b_5.den) : Option (denO o_b_5) :=
 let v5 := ((u.1.1.length : Nat) : Int)
 if (ltI u.1.2.2.1 v5) then
  if 0 ≤ u.1.2.2.1 then
   ((u.1.1)[(u.1.2.2.1).toNat]?).bind fun y6 =>
   (F_a (y6, u.1.2.1, ())).bind fun r7 =>
   if (ltI r7.1.1 (0 : Int)) then
    some (.inr (.inl (((-1 : Int), ()), ((), ()))))
   else
    let v8 := (IntKind.i64.wrap (u.1.2.2.1 + (1 : Int)))
    rec ((u.1.1, (r7.1.1, (v8, ()))), ((), ()))
  else none
 else
  some (.inl ((u.1.2.1, ()), ((), ())))
def L_b_5 (x : i_b_5.den) : Option (denO o_b_5) := Qc l_b_5 lots x
def F_b (x : denP P_b) : FO P_b R_a :=
 let v1 := ((x.1.length : Nat) : Int)
 let v2 := (IntKind.i64.wrap (x.2.1 - v1))
 if (ltI v2 (0 : Int)) then
  some (((-1 : Int), ()), ())
 else
  (L_b_5 ((x.1, (v2, ((0 : Int), ()))), ((), ()))).bind fun z9 =>
  match z9 with
  | .inl x10 =>
   some ((x10.1.1, ()), ())
  | .inr z9_ =>
   match z9_ with
   | .inl x11 =>
    some ((x11.1.1, ()), ())
   | .inr z9__ =>
    none
abbrev C_b : Con := ⟨P_b, R_a, F_b, false⟩
abbrev G_b : Env := [(14, C_a)]
theorem g_b : Qe Tryz.prog G_b := (Qa s_a Qd)
abbrev c_b_5 : Cut := ⟨i_b_5, o_b_5, fun x => Qc l_b_5 lots x⟩
theorem k_b_5 : Qo Tryz.prog 27 (.loop (nav Tryz.f52 [1, 1, 1, 0, 1, 0, 0])) c_b_5 :=
  Qf (L := []) hT g_b (fun _ _ => by kernel_rfl) okP _
theorem r_b (x) : Qv T G_b [(5, c_b_5)] Tryz.f52 C_b.ps C_b.rs x = C_b.F x := by kernel_rfl
theorem s_b : Qb Tryz.prog 52 C_b := fnC (L := [(5, c_b_5)]) hT g_b Tryz.f52 (okS okP (okS okP (okS okP (okS (okS okP (okB (okU k_b_5))) okP)))) r_b
abbrev P_c : List PK := [.val Y23, .val YI]
def F_c (x : denP P_c) : FO P_c R_a :=
 let v1 := ((x.1.length : Nat) : Int)
 let v2 := (IntKind.i64.wrap (x.2.1 - v1))
 if (ltI v2 (0 : Int)) then
  some (((-1 : Int), ()), ())
 else
  some ((v2, ()), ())
abbrev C_c : Con := ⟨P_c, R_a, F_c, false⟩
theorem s_c : Qb Tryz.prog 53 C_c := fnC (L := []) hT g_a Tryz.f53 okP fun _ => by kernel_rfl
abbrev P_d : List PK := [.val Y24, .val YI]
def F_d (x : denP P_d) : FO P_d R_a :=
 let v1 := ((x.1.length : Nat) : Int)
 let v2 := (IntKind.i64.wrap (x.2.1 - v1))
 if (ltI v2 (0 : Int)) then
  some (((-1 : Int), ()), ())
 else
  some ((v2, ()), ())
abbrev C_d : Con := ⟨P_d, R_a, F_d, false⟩
theorem s_d : Qb Tryz.prog 54 C_d := fnC (L := []) hT g_a Tryz.f54 okP fun _ => by kernel_rfl
def F_e (x : denP P_d) : FO P_d R_a :=
 let v1 := ((x.1.length : Nat) : Int)
 let v2 := (IntKind.i64.wrap (x.2.1 - v1))
 if (ltI v2 (0 : Int)) then
  some (((-1 : Int), ()), ())
 else
  some ((v2, ()), ())
abbrev C_e : Con := ⟨P_d, R_a, F_e, false⟩
theorem s_e : Qb Tryz.prog 55 C_e := fnC (L := []) hT g_a Tryz.f55 okP fun _ => by kernel_rfl
abbrev P_f : List PK := [.val Y26, .val YI]
def F_f (x : denP P_f) : FO P_f R_a :=
 (F_b (x.1.1, x.2.1, ())).bind fun r1 =>
 if (ltI r1.1.1 (0 : Int)) then
  some (((-1 : Int), ()), ())
 else
  (F_c (x.1.2.1, r1.1.1, ())).bind fun r2 =>
  if (ltI r2.1.1 (0 : Int)) then
   some (((-1 : Int), ()), ())
  else
   (F_d (x.1.2.2.1, r2.1.1, ())).bind fun r3 =>
   if (ltI r3.1.1 (0 : Int)) then
    some (((-1 : Int), ()), ())
   else
    (F_e (x.1.2.2.2.1, r3.1.1, ())).bind fun r4 =>
    if (ltI r4.1.1 (0 : Int)) then
     some (((-1 : Int), ()), ())
    else
     some ((r4.1.1, ()), ())
abbrev C_f : Con := ⟨P_f, R_a, F_f, false⟩
abbrev G_f : Env := [(52, C_b), (53, C_c), (54, C_d), (55, C_e)]
theorem g_f : Qe Tryz.prog G_f := (Qa s_b (Qa s_c (Qa s_d (Qa s_e Qd))))
theorem s_f : Qb Tryz.prog 13 C_f := fnC (L := []) hT g_f Tryz.f13 okP fun _ => by kernel_rfl
abbrev P_g : List PK := [.val Y32, .val YI]
def F_g (x : denP P_g) : FO P_g R_a :=
 (F_a (x.1.1, x.2.1, ())).bind fun r1 =>
 if (ltI r1.1.1 (0 : Int)) then
  some (((-1 : Int), ()), ())
 else
  (F_a (x.1.2.2.1, r1.1.1, ())).bind fun r2 =>
  if (ltI r2.1.1 (0 : Int)) then
   some (((-1 : Int), ()), ())
  else
   (F_a (x.1.2.2.2.2.2.2.2.1, r2.1.1, ())).bind fun r3 =>
   if (ltI r3.1.1 (0 : Int)) then
    some (((-1 : Int), ()), ())
   else
    (F_a (x.1.2.2.2.2.2.2.2.2.1, r3.1.1, ())).bind fun r4 =>
    if (ltI r4.1.1 (0 : Int)) then
     some (((-1 : Int), ()), ())
    else
     some ((r4.1.1, ()), ())
abbrev C_g : Con := ⟨P_g, R_a, F_g, false⟩
theorem g_g : Qe Tryz.prog G_b := (Qa s_a Qd)
theorem s_g : Qb Tryz.prog 16 C_g := fnC (L := []) hT g_g Tryz.f16 okP fun _ => by kernel_rfl
abbrev P_h : List PK := [.val Y29, .val YI]
abbrev i_h_5 : Shp := { slots := [(0, .s (.dat Y29)), (1, .s (.dat YI)), (5, .s (.dat YI))], boxes := [], rows := [] }
def l_h_5 (rec : i_h_5.den → Option (denO o_b_5)) (u : i_h_5.den) : Option (denO o_b_5) :=
 let v5 := ((u.1.1.length : Nat) : Int)
 if (ltI u.1.2.2.1 v5) then
  if 0 ≤ u.1.2.2.1 then
   ((u.1.1)[(u.1.2.2.1).toNat]?).bind fun y6 =>
   (F_g (y6, u.1.2.1, ())).bind fun r7 =>
   if (ltI r7.1.1 (0 : Int)) then
    some (.inr (.inl (((-1 : Int), ()), ((), ()))))
   else
    let v8 := (IntKind.i64.wrap (u.1.2.2.1 + (1 : Int)))
    rec ((u.1.1, (r7.1.1, (v8, ()))), ((), ()))
  else none
 else
  some (.inl ((u.1.2.1, ()), ((), ())))
def L_h_5 (x : i_h_5.den) : Option (denO o_b_5) := Qc l_h_5 lots x
def F_h (x : denP P_h) : FO P_h R_a :=
 let v1 := ((x.1.length : Nat) : Int)
 let v2 := (IntKind.i64.wrap (x.2.1 - v1))
 if (ltI v2 (0 : Int)) then
  some (((-1 : Int), ()), ())
 else
  (L_h_5 ((x.1, (v2, ((0 : Int), ()))), ((), ()))).bind fun z9 =>
  match z9 with
  | .inl x10 =>
   some ((x10.1.1, ()), ())
  | .inr z9_ =>
   match z9_ with
   | .inl x11 =>
    some ((x11.1.1, ()), ())
   | .inr z9__ =>
    none
abbrev C_h : Con := ⟨P_h, R_a, F_h, false⟩
abbrev G_h : Env := [(16, C_g)]
theorem g_h : Qe Tryz.prog G_h := (Qa s_g Qd)
abbrev c_h_5 : Cut := ⟨i_h_5, o_b_5, fun x => Qc l_h_5 lots x⟩
theorem k_h_5 : Qo Tryz.prog 27 (.loop (nav Tryz.f15 [1, 1, 1, 0, 1, 0, 0])) c_h_5 :=
  Qf (L := []) hT g_h (fun _ _ => by kernel_rfl) okP _
theorem r_h (x) : Qv T G_h [(5, c_h_5)] Tryz.f15 C_h.ps C_h.rs x = C_h.F x := by kernel_rfl
theorem s_h : Qb Tryz.prog 15 C_h := fnC (L := [(5, c_h_5)]) hT g_h Tryz.f15 (okS okP (okS okP (okS okP (okS (okS okP (okB (okU k_h_5))) okP)))) r_h
abbrev P_i : List PK := [.val Y30, .val YI]
def F_i (x : denP P_i) : FO P_i R_a :=
 (F_f (x.1.1, x.2.1, ())).bind fun r1 =>
 if (ltI r1.1.1 (0 : Int)) then
  some (((-1 : Int), ()), ())
 else
  (F_a (x.1.2.1, r1.1.1, ())).bind fun r2 =>
  if (ltI r2.1.1 (0 : Int)) then
   some (((-1 : Int), ()), ())
  else
   (F_h (x.1.2.2.1, r2.1.1, ())).bind fun r3 =>
   if (ltI r3.1.1 (0 : Int)) then
    some (((-1 : Int), ()), ())
   else
    some ((r3.1.1, ()), ())
abbrev C_i : Con := ⟨P_i, R_a, F_i, false⟩
abbrev G_i : Env := [(13, C_f), (14, C_a), (15, C_h)]
theorem g_i : Qe Tryz.prog G_i := (Qa s_f (Qa s_a (Qa s_h Qd)))
theorem s_i : Qb Tryz.prog 4 C_i := fnC (L := []) hT g_i Tryz.f4 okP fun _ => by kernel_rfl
def F_j (x : denP P_d) : FO P_d R_a :=
 let v1 := ((x.1.length : Nat) : Int)
 let v2 := (IntKind.i64.wrap (x.2.1 - v1))
 if (ltI v2 (0 : Int)) then
  some (((-1 : Int), ()), ())
 else
  some ((v2, ()), ())
abbrev C_j : Con := ⟨P_d, R_a, F_j, false⟩
theorem s_j : Qb Tryz.prog 17 C_j := fnC (L := []) hT g_a Tryz.f17 okP fun _ => by kernel_rfl
abbrev P_k : List PK := [.val Y35, .val YI]
def F_k (x : denP P_k) : FO P_k R_a :=
 (F_g (x.1.1, x.2.1, ())).bind fun r1 =>
 if (ltI r1.1.1 (0 : Int)) then
  some (((-1 : Int), ()), ())
 else
  (F_j (x.1.2.1, r1.1.1, ())).bind fun r2 =>
  if (ltI r2.1.1 (0 : Int)) then
   some (((-1 : Int), ()), ())
  else
   (F_a (x.1.2.2.1, r2.1.1, ())).bind fun r3 =>
   if (ltI r3.1.1 (0 : Int)) then
    some (((-1 : Int), ()), ())
   else
    some ((r3.1.1, ()), ())
abbrev C_k : Con := ⟨P_k, R_a, F_k, false⟩
abbrev G_k : Env := [(14, C_a), (16, C_g), (17, C_j)]
theorem g_k : Qe Tryz.prog G_k := (Qa s_a (Qa s_g (Qa s_j Qd)))
theorem s_k : Qb Tryz.prog 5 C_k := fnC (L := []) hT g_k Tryz.f5 okP fun _ => by kernel_rfl
abbrev P_l : List PK := [.val Y28]
abbrev R_l : List VK := [.s (.own 2 YI)]
abbrev i_l_3 : Shp := { slots := [(0, .s (.dat Y28)), (3, .s (.own 2 YI)), (4, .s (.dat YI))], boxes := [], rows := [] }
abbrev o_l_3 : List (Ex × Shp) := [(.exit 0, { slots := [(3, .s (.own 2 YI))], boxes := [], rows := [] })]
def l_l_3 (rec : i_l_3.den → Option (denO o_l_3)) (u : i_l_3.den) : Option (denO o_l_3) :=
 let v4 := ((u.1.1.length : Nat) : Int)
 if (ltI u.1.2.2.1 v4) then
  if 0 ≤ u.1.2.2.1 then
   ((u.1.1)[(u.1.2.2.1).toNat]?).bind fun y5 =>
   if 0 ≤ u.1.2.2.1 ∧ u.1.2.2.1 < ((u.1.2.1.length : Nat) : Int) then
    ((u.1.2.1)[(u.1.2.2.1).toNat]?).bind fun y6 =>
    let v7 := (u.1.2.1.set (u.1.2.2.1).toNat y5)
    let v8 := (IntKind.i64.wrap (u.1.2.2.1 + (1 : Int)))
    rec ((u.1.1, (v7, (v8, ()))), ((), ()))
   else none
  else none
 else
  some (.inl ((u.1.2.1, ()), ((), ())))
def L_l_3 (x : i_l_3.den) : Option (denO o_l_3) := Qc l_l_3 lots x
def F_l (x : denP P_l) : FO P_l R_l :=
 let v1 := ((x.1.length : Nat) : Int)
 if v1 = v1 ∧ 0 ≤ v1 ∧ v1 * 8 ≤ 140737488355328 ∧ v1 ≤ 9223372036854775807 then
  (L_l_3 ((x.1, ((List.replicate (v1).toNat (Qbt YI)), ((0 : Int), ()))), ((), ()))).bind fun z9 =>
  match z9 with
  | .inl x10 =>
   some ((x10.1.1, ()), ())
  | .inr z9_ =>
   none
 else none
abbrev C_l : Con := ⟨P_l, R_l, F_l, false⟩
abbrev c_l_3 : Cut := ⟨i_l_3, o_l_3, fun x => Qc l_l_3 lots x⟩
theorem k_l_3 : Qo Tryz.prog 22 (.loop (nav Tryz.f31 [1, 1, 0, 1, 0, 0])) c_l_3 :=
  Qf (L := []) hT g_a (fun _ _ => by kernel_rfl) okP _
theorem r_l (x) : Qv T G_a [(3, c_l_3)] Tryz.f31 C_l.ps C_l.rs x = C_l.F x := by kernel_rfl
theorem s_l : Qb Tryz.prog 31 C_l := fnC (L := [(3, c_l_3)]) hT g_a Tryz.f31 (okS okP (okS okP (okS (okS okP (okB (okU k_l_3))) okP))) r_l
abbrev P_m : List PK := [.val Y22]
abbrev R_m : List VK := [.s (.own 3000028 Y28)]
abbrev i_m_3 : Shp := { slots := [(0, .s (.dat Y22)), (3, .s (.own 3000028 Y28)), (4, .s (.dat YI))], boxes := [], rows := [] }
abbrev o_m_3 : List (Ex × Shp) := [(.exit 0, { slots := [(3, .s (.own 3000028 Y28))], boxes := [], rows := [] })]
def l_m_3 (rec : i_m_3.den → Option (denO o_m_3)) (u : i_m_3.den) : Option (denO o_m_3) :=
 let v5 := ((u.1.1.length : Nat) : Int)
 if (ltI u.1.2.2.1 v5) then
  if 0 ≤ u.1.2.2.1 then
   ((u.1.1)[(u.1.2.2.1).toNat]?).bind fun y6 =>
   (F_l (y6, ())).bind fun r7 =>
   if 0 ≤ u.1.2.2.1 ∧ u.1.2.2.1 < ((u.1.2.1.length : Nat) : Int) then
    ((u.1.2.1)[(u.1.2.2.1).toNat]?).bind fun y8 =>
    let v9 := (u.1.2.1.set (u.1.2.2.1).toNat r7.1.1)
    let v10 := (IntKind.i64.wrap (u.1.2.2.1 + (1 : Int)))
    rec ((u.1.1, (v9, (v10, ()))), ((), ()))
   else none
  else none
 else
  some (.inl ((u.1.2.1, ()), ((), ())))
def L_m_3 (x : i_m_3.den) : Option (denO o_m_3) := Qc l_m_3 lots x
def F_m (x : denP P_m) : FO P_m R_m :=
 let v1 := ((x.1.length : Nat) : Int)
 if v1 = v1 ∧ 0 ≤ v1 ∧ v1 * 24 ≤ 140737488355328 ∧ v1 ≤ 9223372036854775807 then
  (L_m_3 ((x.1, ((List.replicate (v1).toNat (Qbt Y28)), ((0 : Int), ()))), ((), ()))).bind fun z11 =>
  match z11 with
  | .inl x12 =>
   some ((x12.1.1, ()), ())
  | .inr z11_ =>
   none
 else none
abbrev C_m : Con := ⟨P_m, R_m, F_m, false⟩
abbrev G_m : Env := [(31, C_l)]
theorem g_m : Qe Tryz.prog G_m := (Qa s_l Qd)
abbrev c_m_3 : Cut := ⟨i_m_3, o_m_3, fun x => Qc l_m_3 lots x⟩
theorem k_m_3 : Qo Tryz.prog 23 (.loop (nav Tryz.f73 [1, 1, 0, 1, 0, 0])) c_m_3 :=
  Qf (L := []) hT g_m (fun _ _ => by kernel_rfl) okP _
theorem r_m (x) : Qv T G_m [(3, c_m_3)] Tryz.f73 C_m.ps C_m.rs x = C_m.F x := by kernel_rfl
theorem s_m : Qb Tryz.prog 73 C_m := fnC (L := [(3, c_m_3)]) hT g_m Tryz.f73 (okS okP (okS okP (okS (okS okP (okB (okU k_m_3))) okP))) r_m
abbrev P_n : List PK := [.val Y78]
abbrev R_n : List VK := [.s (.dat Y78)]
def F_n (x : denP P_n) : FO P_n R_n :=
 some ((x.1, ()), ())
abbrev C_n : Con := ⟨P_n, R_n, F_n, false⟩
theorem s_n : Qb Tryz.prog 121 C_n := fnC (L := []) hT g_a Tryz.f121 okP fun _ => by kernel_rfl
abbrev P_o : List PK := [.val Y23]
abbrev R_o : List VK := [.s (.own 79 Y78)]
abbrev i_o_3 : Shp := { slots := [(0, .s (.dat Y23)), (3, .s (.own 79 Y78)), (4, .s (.dat YI))], boxes := [], rows := [] }
abbrev o_o_3 : List (Ex × Shp) := [(.exit 0, { slots := [(3, .s (.own 79 Y78))], boxes := [], rows := [] })]
def l_o_3 (rec : i_o_3.den → Option (denO o_o_3)) (u : i_o_3.den) : Option (denO o_o_3) :=
 let v5 := ((u.1.1.length : Nat) : Int)
 if (ltI u.1.2.2.1 v5) then
  if 0 ≤ u.1.2.2.1 then
   ((u.1.1)[(u.1.2.2.1).toNat]?).bind fun y6 =>
   (F_n (y6, ())).bind fun r7 =>
   if 0 ≤ u.1.2.2.1 ∧ u.1.2.2.1 < ((u.1.2.1.length : Nat) : Int) then
    ((u.1.2.1)[(u.1.2.2.1).toNat]?).bind fun y8 =>
    let v9 := (u.1.2.1.set (u.1.2.2.1).toNat r7.1.1)
    let v10 := (IntKind.i64.wrap (u.1.2.2.1 + (1 : Int)))
    rec ((u.1.1, (v9, (v10, ()))), ((), ()))
   else none
  else none
 else
  some (.inl ((u.1.2.1, ()), ((), ())))
def L_o_3 (x : i_o_3.den) : Option (denO o_o_3) := Qc l_o_3 lots x
def F_o (x : denP P_o) : FO P_o R_o :=
 let v1 := ((x.1.length : Nat) : Int)
 if v1 = v1 ∧ 0 ≤ v1 ∧ v1 * 40 ≤ 140737488355328 ∧ v1 ≤ 9223372036854775807 then
  (L_o_3 ((x.1, ((List.replicate (v1).toNat (Qbt Y78)), ((0 : Int), ()))), ((), ()))).bind fun z11 =>
  match z11 with
  | .inl x12 =>
   some ((x12.1.1, ()), ())
  | .inr z11_ =>
   none
 else none
abbrev C_o : Con := ⟨P_o, R_o, F_o, false⟩
abbrev G_o : Env := [(121, C_n)]
theorem g_o : Qe Tryz.prog G_o := (Qa s_n Qd)
abbrev c_o_3 : Cut := ⟨i_o_3, o_o_3, fun x => Qc l_o_3 lots x⟩
theorem k_o_3 : Qo Tryz.prog 23 (.loop (nav Tryz.f74 [1, 1, 0, 1, 0, 0])) c_o_3 :=
  Qf (L := []) hT g_o (fun _ _ => by kernel_rfl) okP _
theorem r_o (x) : Qv T G_o [(3, c_o_3)] Tryz.f74 C_o.ps C_o.rs x = C_o.F x := by kernel_rfl
theorem s_o : Qb Tryz.prog 74 C_o := fnC (L := [(3, c_o_3)]) hT g_o Tryz.f74 (okS okP (okS okP (okS (okS okP (okB (okU k_o_3))) okP))) r_o
abbrev P_p : List PK := [.val Y76]
abbrev R_p : List VK := [.s (.dat Y76)]
def F_p (x : denP P_p) : FO P_p R_p :=
 some ((x.1, ()), ())
abbrev C_p : Con := ⟨P_p, R_p, F_p, false⟩
theorem s_p : Qb Tryz.prog 122 C_p := fnC (L := []) hT g_a Tryz.f122 okP fun _ => by kernel_rfl
abbrev P_q : List PK := [.val Y24]
abbrev R_q : List VK := [.s (.own 160 Y76)]
abbrev i_q_3 : Shp := { slots := [(0, .s (.dat Y24)), (3, .s (.own 160 Y76)), (4, .s (.dat YI))], boxes := [], rows := [] }
abbrev o_q_3 : List (Ex × Shp) := [(.exit 0, { slots := [(3, .s (.own 160 Y76))], boxes := [], rows := [] })]
def l_q_3 (rec : i_q_3.den → Option (denO o_q_3)) (u : i_q_3.den) : Option (denO o_q_3) :=
 let v5 := ((u.1.1.length : Nat) : Int)
 if (ltI u.1.2.2.1 v5) then
  if 0 ≤ u.1.2.2.1 then
   ((u.1.1)[(u.1.2.2.1).toNat]?).bind fun y6 =>
   (F_p (y6, ())).bind fun r7 =>
   if 0 ≤ u.1.2.2.1 ∧ u.1.2.2.1 < ((u.1.2.1.length : Nat) : Int) then
    ((u.1.2.1)[(u.1.2.2.1).toNat]?).bind fun y8 =>
    let v9 := (u.1.2.1.set (u.1.2.2.1).toNat r7.1.1)
    let v10 := (IntKind.i64.wrap (u.1.2.2.1 + (1 : Int)))
    rec ((u.1.1, (v9, (v10, ()))), ((), ()))
   else none
  else none
 else
  some (.inl ((u.1.2.1, ()), ((), ())))
def L_q_3 (x : i_q_3.den) : Option (denO o_q_3) := Qc l_q_3 lots x
def F_q (x : denP P_q) : FO P_q R_q :=
 let v1 := ((x.1.length : Nat) : Int)
 if v1 = v1 ∧ 0 ≤ v1 ∧ v1 * 16 ≤ 140737488355328 ∧ v1 ≤ 9223372036854775807 then
  (L_q_3 ((x.1, ((List.replicate (v1).toNat (Qbt Y76)), ((0 : Int), ()))), ((), ()))).bind fun z11 =>
  match z11 with
  | .inl x12 =>
   some ((x12.1.1, ()), ())
  | .inr z11_ =>
   none
 else none
abbrev C_q : Con := ⟨P_q, R_q, F_q, false⟩
abbrev G_q : Env := [(122, C_p)]
theorem g_q : Qe Tryz.prog G_q := (Qa s_p Qd)
abbrev c_q_3 : Cut := ⟨i_q_3, o_q_3, fun x => Qc l_q_3 lots x⟩
theorem k_q_3 : Qo Tryz.prog 23 (.loop (nav Tryz.f75 [1, 1, 0, 1, 0, 0])) c_q_3 :=
  Qf (L := []) hT g_q (fun _ _ => by kernel_rfl) okP _
theorem r_q (x) : Qv T G_q [(3, c_q_3)] Tryz.f75 C_q.ps C_q.rs x = C_q.F x := by kernel_rfl
theorem s_q : Qb Tryz.prog 75 C_q := fnC (L := [(3, c_q_3)]) hT g_q Tryz.f75 (okS okP (okS okP (okS (okS okP (okB (okU k_q_3))) okP))) r_q
def F_r (x : denP P_p) : FO P_p R_p :=
 some ((x.1, ()), ())
abbrev C_r : Con := ⟨P_p, R_p, F_r, false⟩
theorem s_r : Qb Tryz.prog 123 C_r := fnC (L := []) hT g_a Tryz.f123 okP fun _ => by kernel_rfl
abbrev R_s : List VK := [.s (.own 77 Y76)]
abbrev i_s_3 : Shp := { slots := [(0, .s (.dat Y24)), (3, .s (.own 77 Y76)), (4, .s (.dat YI))], boxes := [], rows := [] }
abbrev o_s_3 : List (Ex × Shp) := [(.exit 0, { slots := [(3, .s (.own 77 Y76))], boxes := [], rows := [] })]
def l_s_3 (rec : i_s_3.den → Option (denO o_s_3)) (u : i_s_3.den) : Option (denO o_s_3) :=
 let v5 := ((u.1.1.length : Nat) : Int)
 if (ltI u.1.2.2.1 v5) then
  if 0 ≤ u.1.2.2.1 then
   ((u.1.1)[(u.1.2.2.1).toNat]?).bind fun y6 =>
   (F_r (y6, ())).bind fun r7 =>
   if 0 ≤ u.1.2.2.1 ∧ u.1.2.2.1 < ((u.1.2.1.length : Nat) : Int) then
    ((u.1.2.1)[(u.1.2.2.1).toNat]?).bind fun y8 =>
    let v9 := (u.1.2.1.set (u.1.2.2.1).toNat r7.1.1)
    let v10 := (IntKind.i64.wrap (u.1.2.2.1 + (1 : Int)))
    rec ((u.1.1, (v9, (v10, ()))), ((), ()))
   else none
  else none
 else
  some (.inl ((u.1.2.1, ()), ((), ())))
def L_s_3 (x : i_s_3.den) : Option (denO o_s_3) := Qc l_s_3 lots x
def F_s (x : denP P_q) : FO P_q R_s :=
 let v1 := ((x.1.length : Nat) : Int)
 if v1 = v1 ∧ 0 ≤ v1 ∧ v1 * 16 ≤ 140737488355328 ∧ v1 ≤ 9223372036854775807 then
  (L_s_3 ((x.1, ((List.replicate (v1).toNat (Qbt Y76)), ((0 : Int), ()))), ((), ()))).bind fun z11 =>
  match z11 with
  | .inl x12 =>
   some ((x12.1.1, ()), ())
  | .inr z11_ =>
   none
 else none
abbrev C_s : Con := ⟨P_q, R_s, F_s, false⟩
abbrev G_s : Env := [(123, C_r)]
theorem g_s : Qe Tryz.prog G_s := (Qa s_r Qd)
abbrev c_s_3 : Cut := ⟨i_s_3, o_s_3, fun x => Qc l_s_3 lots x⟩
theorem k_s_3 : Qo Tryz.prog 23 (.loop (nav Tryz.f76 [1, 1, 0, 1, 0, 0])) c_s_3 :=
  Qf (L := []) hT g_s (fun _ _ => by kernel_rfl) okP _
theorem r_s (x) : Qv T G_s [(3, c_s_3)] Tryz.f76 C_s.ps C_s.rs x = C_s.F x := by kernel_rfl
theorem s_s : Qb Tryz.prog 76 C_s := fnC (L := [(3, c_s_3)]) hT g_s Tryz.f76 (okS okP (okS okP (okS (okS okP (okB (okU k_s_3))) okP))) r_s
abbrev P_t : List PK := [.val Y26]
abbrev R_t : List VK := [.g [.own 3000028 Y28, .own 79 Y78, .own 160 Y76, .own 77 Y76]]
def F_t (x : denP P_t) : FO P_t R_t :=
 (F_m (x.1.1, ())).bind fun r1 =>
 (F_o (x.1.2.1, ())).bind fun r2 =>
 (F_q (x.1.2.2.1, ())).bind fun r3 =>
 (F_s (x.1.2.2.2.1, ())).bind fun r4 =>
 some (((r1.1.1, (r2.1.1, (r3.1.1, (r4.1.1, ())))), ()), ())
abbrev C_t : Con := ⟨P_t, R_t, F_t, false⟩
abbrev G_t : Env := [(73, C_m), (74, C_o), (75, C_q), (76, C_s)]
theorem g_t : Qe Tryz.prog G_t := (Qa s_m (Qa s_o (Qa s_q (Qa s_s Qd))))
theorem s_t : Qb Tryz.prog 30 C_t := fnC (L := []) hT g_t Tryz.f30 okP fun _ => by kernel_rfl
abbrev P_u : List PK := [.val Y32]
abbrev R_u : List VK := [.g [.own 2 YI, .dat YI, .own 2 YI, .dat .bool, .dat .bool, .dat .bool, .dat YI, .own 2 YI, .own 2 YI]]
def F_u (x : denP P_u) : FO P_u R_u :=
 (F_l (x.1.1, ())).bind fun r1 =>
 (F_l (x.1.2.2.1, ())).bind fun r2 =>
 (F_l (x.1.2.2.2.2.2.2.2.1, ())).bind fun r3 =>
 (F_l (x.1.2.2.2.2.2.2.2.2.1, ())).bind fun r4 =>
 some (((r1.1.1, (x.1.2.1, (r2.1.1, (x.1.2.2.2.1, (x.1.2.2.2.2.1, (x.1.2.2.2.2.2.1, (x.1.2.2.2.2.2.2.1, (r3.1.1, (r4.1.1, ()))))))))), ()), ())
abbrev C_u : Con := ⟨P_u, R_u, F_u, false⟩
theorem g_u : Qe Tryz.prog G_m := (Qa s_l Qd)
theorem s_u : Qb Tryz.prog 33 C_u := fnC (L := []) hT g_u Tryz.f33 okP fun _ => by kernel_rfl
abbrev P_v : List PK := [.val Y29]
abbrev R_v : List VK := [.s (.own 3000051 Y32)]
abbrev i_v_3 : Shp := { slots := [(0, .s (.dat Y29)), (3, .s (.own 3000051 Y32)), (4, .s (.dat YI))], boxes := [], rows := [] }
abbrev o_v_3 : List (Ex × Shp) := [(.exit 0, { slots := [(3, .s (.own 3000051 Y32))], boxes := [], rows := [] })]
def l_v_3 (rec : i_v_3.den → Option (denO o_v_3)) (u : i_v_3.den) : Option (denO o_v_3) :=
 let v5 := ((u.1.1.length : Nat) : Int)
 if (ltI u.1.2.2.1 v5) then
  if 0 ≤ u.1.2.2.1 then
   ((u.1.1)[(u.1.2.2.1).toNat]?).bind fun y6 =>
   (F_u (y6, ())).bind fun r7 =>
   if 0 ≤ u.1.2.2.1 ∧ u.1.2.2.1 < ((u.1.2.1.length : Nat) : Int) then
    ((u.1.2.1)[(u.1.2.2.1).toNat]?).bind fun y8 =>
    let v9 := (u.1.2.1.set (u.1.2.2.1).toNat r7.1.1)
    let v10 := (IntKind.i64.wrap (u.1.2.2.1 + (1 : Int)))
    rec ((u.1.1, (v9, (v10, ()))), ((), ()))
   else none
  else none
 else
  some (.inl ((u.1.2.1, ()), ((), ())))
def L_v_3 (x : i_v_3.den) : Option (denO o_v_3) := Qc l_v_3 lots x
def F_v (x : denP P_v) : FO P_v R_v :=
 let v1 := ((x.1.length : Nat) : Int)
 if v1 = v1 ∧ 0 ≤ v1 ∧ v1 * 120 ≤ 140737488355328 ∧ v1 ≤ 9223372036854775807 then
  (L_v_3 ((x.1, ((List.replicate (v1).toNat (Qbt Y32)), ((0 : Int), ()))), ((), ()))).bind fun z11 =>
  match z11 with
  | .inl x12 =>
   some ((x12.1.1, ()), ())
  | .inr z11_ =>
   none
 else none
abbrev C_v : Con := ⟨P_v, R_v, F_v, false⟩
abbrev G_v : Env := [(33, C_u)]
theorem g_v : Qe Tryz.prog G_v := (Qa s_u Qd)
abbrev c_v_3 : Cut := ⟨i_v_3, o_v_3, fun x => Qc l_v_3 lots x⟩
theorem k_v_3 : Qo Tryz.prog 23 (.loop (nav Tryz.f32 [1, 1, 0, 1, 0, 0])) c_v_3 :=
  Qf (L := []) hT g_v (fun _ _ => by kernel_rfl) okP _
theorem r_v (x) : Qv T G_v [(3, c_v_3)] Tryz.f32 C_v.ps C_v.rs x = C_v.F x := by kernel_rfl
theorem s_v : Qb Tryz.prog 32 C_v := fnC (L := [(3, c_v_3)]) hT g_v Tryz.f32 (okS okP (okS okP (okS (okS okP (okB (okU k_v_3))) okP))) r_v
abbrev P_w : List PK := [.val Y30]
abbrev R_w : List VK := [.g [.own 3000028 Y28, .own 79 Y78, .own 160 Y76, .own 77 Y76, .own 2 YI, .own 3000051 Y32, .dat YI, .dat YI, .dat YI]]
def F_w (x : denP P_w) : FO P_w R_w :=
 (F_t (x.1.1, ())).bind fun r1 =>
 (F_l (x.1.2.1, ())).bind fun r2 =>
 (F_v (x.1.2.2.1, ())).bind fun r3 =>
 some (((r1.1.1.1, (r1.1.1.2.1, (r1.1.1.2.2.1, (r1.1.1.2.2.2.1, (r2.1.1, (r3.1.1, (x.1.2.2.2.1, (x.1.2.2.2.2.1, (x.1.2.2.2.2.2.1, ()))))))))), ()), ())
abbrev C_w : Con := ⟨P_w, R_w, F_w, false⟩
abbrev G_w : Env := [(30, C_t), (31, C_l), (32, C_v)]
theorem g_w : Qe Tryz.prog G_w := (Qa s_t (Qa s_l (Qa s_v Qd)))
theorem s_w : Qb Tryz.prog 7 C_w := fnC (L := []) hT g_w Tryz.f7 okP fun _ => by kernel_rfl
def F_x (x : denP P_p) : FO P_p R_p :=
 some ((x.1, ()), ())
abbrev C_x : Con := ⟨P_p, R_p, F_x, false⟩
theorem s_x : Qb Tryz.prog 77 C_x := fnC (L := []) hT g_a Tryz.f77 okP fun _ => by kernel_rfl
abbrev R_y : List VK := [.s (.own 139 Y76)]
abbrev i_y_3 : Shp := { slots := [(0, .s (.dat Y24)), (3, .s (.own 139 Y76)), (4, .s (.dat YI))], boxes := [], rows := [] }
abbrev o_y_3 : List (Ex × Shp) := [(.exit 0, { slots := [(3, .s (.own 139 Y76))], boxes := [], rows := [] })]
def l_y_3 (rec : i_y_3.den → Option (denO o_y_3)) (u : i_y_3.den) : Option (denO o_y_3) :=
 let v5 := ((u.1.1.length : Nat) : Int)
 if (ltI u.1.2.2.1 v5) then
  if 0 ≤ u.1.2.2.1 then
   ((u.1.1)[(u.1.2.2.1).toNat]?).bind fun y6 =>
   (F_x (y6, ())).bind fun r7 =>
   if 0 ≤ u.1.2.2.1 ∧ u.1.2.2.1 < ((u.1.2.1.length : Nat) : Int) then
    ((u.1.2.1)[(u.1.2.2.1).toNat]?).bind fun y8 =>
    let v9 := (u.1.2.1.set (u.1.2.2.1).toNat r7.1.1)
    let v10 := (IntKind.i64.wrap (u.1.2.2.1 + (1 : Int)))
    rec ((u.1.1, (v9, (v10, ()))), ((), ()))
   else none
  else none
 else
  some (.inl ((u.1.2.1, ()), ((), ())))
def L_y_3 (x : i_y_3.den) : Option (denO o_y_3) := Qc l_y_3 lots x
def F_y (x : denP P_q) : FO P_q R_y :=
 let v1 := ((x.1.length : Nat) : Int)
 if v1 = v1 ∧ 0 ≤ v1 ∧ v1 * 16 ≤ 140737488355328 ∧ v1 ≤ 9223372036854775807 then
  (L_y_3 ((x.1, ((List.replicate (v1).toNat (Qbt Y76)), ((0 : Int), ()))), ((), ()))).bind fun z11 =>
  match z11 with
  | .inl x12 =>
   some ((x12.1.1, ()), ())
  | .inr z11_ =>
   none
 else none
abbrev C_y : Con := ⟨P_q, R_y, F_y, false⟩
abbrev G_y : Env := [(77, C_x)]
theorem g_y : Qe Tryz.prog G_y := (Qa s_x Qd)
abbrev c_y_3 : Cut := ⟨i_y_3, o_y_3, fun x => Qc l_y_3 lots x⟩
theorem k_y_3 : Qo Tryz.prog 23 (.loop (nav Tryz.f34 [1, 1, 0, 1, 0, 0])) c_y_3 :=
  Qf (L := []) hT g_y (fun _ _ => by kernel_rfl) okP _
theorem r_y (x) : Qv T G_y [(3, c_y_3)] Tryz.f34 C_y.ps C_y.rs x = C_y.F x := by kernel_rfl
theorem s_y : Qb Tryz.prog 34 C_y := fnC (L := [(3, c_y_3)]) hT g_y Tryz.f34 (okS okP (okS okP (okS (okS okP (okB (okU k_y_3))) okP))) r_y
abbrev P_z : List PK := [.val Y35]
abbrev R_z : List VK := [.g [.own 2 YI, .dat YI, .own 2 YI, .dat .bool, .dat .bool, .dat .bool, .dat YI, .own 2 YI, .own 2 YI, .own 139 Y76, .own 2 YI]]
def F_z (x : denP P_z) : FO P_z R_z :=
 (F_u (x.1.1, ())).bind fun r1 =>
 (F_y (x.1.2.1, ())).bind fun r2 =>
 (F_l (x.1.2.2.1, ())).bind fun r3 =>
 some (((r1.1.1.1, (r1.1.1.2.1, (r1.1.1.2.2.1, (r1.1.1.2.2.2.1, (r1.1.1.2.2.2.2.1, (r1.1.1.2.2.2.2.2.1, (r1.1.1.2.2.2.2.2.2.1, (r1.1.1.2.2.2.2.2.2.2.1, (r1.1.1.2.2.2.2.2.2.2.2.1, (r2.1.1, (r3.1.1, ()))))))))))), ()), ())
abbrev C_z : Con := ⟨P_z, R_z, F_z, false⟩
abbrev G_z : Env := [(31, C_l), (33, C_u), (34, C_y)]
theorem g_z : Qe Tryz.prog G_z := (Qa s_l (Qa s_u (Qa s_y Qd)))
theorem s_z : Qb Tryz.prog 8 C_z := fnC (L := []) hT g_z Tryz.f8 okP fun _ => by kernel_rfl
abbrev P_aa : List PK := [.val YI, .val YI, .val YI]
abbrev R_aa : List VK := [.s (.dat .bool)]
def F_aa (x : denP P_aa) : FO P_aa R_aa :=
 if (leI x.2.1 x.1) = true then
  some (((leI x.1 x.2.2.1), ()), ())
 else
  some ((false, ()), ())
abbrev C_aa : Con := ⟨P_aa, R_aa, F_aa, false⟩
theorem s_aa : Qb Tryz.prog 59 C_aa := fnC (L := []) hT g_a Tryz.f59 okP fun _ => by kernel_rfl
abbrev i_ab_2 : Shp := { slots := [(0, .s (.dat Y28)), (1, .s (.dat YI)), (5, .s (.dat YI))], boxes := [], rows := [] }
abbrev o_ab_2 : List (Ex × Shp) := [(.exit 0, { slots := [], boxes := [], rows := [] }), (.ret, { slots := [(4, .s (.dat .bool))], boxes := [], rows := [] })]
def l_ab_2 (rec : i_ab_2.den → Option (denO o_ab_2)) (u : i_ab_2.den) : Option (denO o_ab_2) :=
 let v2 := ((u.1.1.length : Nat) : Int)
 if (ltI u.1.2.2.1 v2) then
  if 0 ≤ u.1.2.2.1 then
   ((u.1.1)[(u.1.2.2.1).toNat]?).bind fun y3 =>
   if (y3 == u.1.2.1) then
    some (.inr (.inl ((true, ()), ((), ()))))
   else
    let v4 := (IntKind.i64.wrap (u.1.2.2.1 + (1 : Int)))
    rec ((u.1.1, (u.1.2.1, (v4, ()))), ((), ()))
  else none
 else
  some (.inl ((), ((), ())))
def L_ab_2 (x : i_ab_2.den) : Option (denO o_ab_2) := Qc l_ab_2 lots x
def F_ab (x : denP P_a) : FO P_a R_aa :=
 (L_ab_2 ((x.1, (x.2.1, ((0 : Int), ()))), ((), ()))).bind fun z5 =>
 match z5 with
 | .inl x6 =>
  some ((false, ()), ())
 | .inr z5_ =>
  match z5_ with
  | .inl x7 =>
   some ((x7.1.1, ()), ())
  | .inr z5__ =>
   none
abbrev C_ab : Con := ⟨P_a, R_aa, F_ab, false⟩
abbrev c_ab_2 : Cut := ⟨i_ab_2, o_ab_2, fun x => Qc l_ab_2 lots x⟩
theorem k_ab_2 : Qo Tryz.prog 18 (.loop (nav Tryz.f146 [1, 0, 1, 0, 0])) c_ab_2 :=
  Qf (L := []) hT g_a (fun _ _ => by kernel_rfl) okP _
theorem r_ab (x) : Qv T G_a [(2, c_ab_2)] Tryz.f146 C_ab.ps C_ab.rs x = C_ab.F x := by kernel_rfl
theorem s_ab : Qb Tryz.prog 146 C_ab := fnC (L := [(2, c_ab_2)]) hT g_a Tryz.f146 (okS okP (okS (okS okP (okB (okU k_ab_2))) okP)) r_ab
abbrev P_ac : List PK := [.ptr Y26]
abbrev i_ac_18 : Shp := { slots := [(0, .s (.pd Y26)), (5, .s (.own 2 YI)), (6, .s (.dat YI)), (7, .s (.dat YI))], boxes := [], rows := [] }
abbrev o_ac_18 : List (Ex × Shp) := [(.exit 6, { slots := [(0, .s (.pd Y26)), (5, .s (.own 2 YI)), (6, .s (.dat YI))], boxes := [], rows := [] }), (.ret, { slots := [(2, .s (.dat YI))], boxes := [], rows := [] })]
def l_ac_18 (rec : i_ac_18.den → Option (denO o_ac_18)) (u : i_ac_18.den) : Option (denO o_ac_18) :=
 if 0 ≤ u.1.2.2.1 then
  ((u.1.1.1)[(u.1.2.2.1).toNat]?).bind fun y49 =>
  let v50 := ((y49.length : Nat) : Int)
  if (ltI u.1.2.2.2.1 v50) then
   if 0 ≤ u.1.2.2.1 then
    ((u.1.1.1)[(u.1.2.2.1).toNat]?).bind fun y51 =>
    if 0 ≤ u.1.2.2.2.1 then
     ((y51)[(u.1.2.2.2.1).toNat]?).bind fun y52 =>
     (F_ab (u.1.2.1, y52, ())).bind fun r53 =>
     if r53.1.1 then
      some (.inr (.inl (((6 : Int), ()), ((), ()))))
     else
      if 0 ≤ u.1.2.2.1 then
       ((u.1.1.1)[(u.1.2.2.1).toNat]?).bind fun y54 =>
       if 0 ≤ u.1.2.2.2.1 then
        ((y54)[(u.1.2.2.2.1).toNat]?).bind fun y55 =>
        if (u.1.2.1.length + [y55].length) * 8 ≤ 140737488355328 then
         let v56 := (u.1.2.1 ++ [y55])
         let v57 := (IntKind.i64.wrap (u.1.2.2.2.1 + (1 : Int)))
         rec ((u.1.1, (v56, (u.1.2.2.1, (v57, ())))), ((), ()))
        else none
       else none
      else none
    else none
   else none
  else
   some (.inl ((u.1.1, (u.1.2.1, (u.1.2.2.1, ()))), ((), ())))
 else none
def L_ac_18 (x : i_ac_18.den) : Option (denO o_ac_18) := Qc l_ac_18 lots x
abbrev i_ac_9 : Shp := { slots := [(0, .s (.pd Y26)), (3, .s (.dat YI)), (4, .s (.dat YI)), (41, .s (.pd Y26)), (42, .s (.pd Y26)), (43, .s (.pd Y22)), (44, .s (.dat Y22)), (45, .s (.dat YI)), (46, .s (.pd Y28)), (47, .s (.dat Y28)), (48, .s (.dat YI)), (49, .s (.dat .bool))], boxes := [], rows := [] }
abbrev o_ac_9 : List (Ex × Shp) := [(.exit 2, { slots := [(0, .s (.pd Y26)), (3, .s (.dat YI)), (41, .s (.pd Y26)), (42, .s (.pd Y26)), (43, .s (.pd Y22)), (44, .s (.dat Y22)), (45, .s (.dat YI)), (46, .s (.pd Y28)), (47, .s (.dat Y28)), (48, .s (.dat YI)), (49, .s (.dat .bool))], boxes := [], rows := [] }), (.ret, { slots := [(2, .s (.dat YI))], boxes := [], rows := [] })]
def l_ac_9 (rec : i_ac_9.den → Option (denO o_ac_9)) (u : i_ac_9.den) : Option (denO o_ac_9) :=
 if 0 ≤ u.1.2.1 then
  ((u.1.1.1)[(u.1.2.1).toNat]?).bind fun y21 =>
  let v22 := ((y21.length : Nat) : Int)
  if (ltI u.1.2.2.1 v22) then
   if 0 ≤ u.1.2.1 then
    ((u.1.1.1)[(u.1.2.1).toNat]?).bind fun y23 =>
    if 0 ≤ u.1.2.2.1 then
     ((y23)[(u.1.2.2.1).toNat]?).bind fun y24 =>
     (F_aa (y24, (0 : Int), (23 : Int), ())).bind fun r25 =>
     if (!r25.1.1) then
      some (.inr (.inl (((3 : Int), ()), ((), ()))))
     else
      let v26 := (IntKind.i64.wrap (u.1.2.2.1 + (1 : Int)))
      rec ((u.1.1, (u.1.2.1, (v26, (u.1.2.2.2.1, (u.1.2.2.2.2.1, (u.1.2.2.2.2.2.1, (u.1.2.2.2.2.2.2.1, (u.1.2.2.2.2.2.2.2.1, (u.1.2.2.2.2.2.2.2.2.1, (u.1.2.2.2.2.2.2.2.2.2.1, (u.1.2.2.2.2.2.2.2.2.2.2.1, (u.1.2.2.2.2.2.2.2.2.2.2.2.1, ())))))))))))), ((), ()))
    else none
   else none
  else
   some (.inl ((u.1.1, (u.1.2.1, (u.1.2.2.2.1, (u.1.2.2.2.2.1, (u.1.2.2.2.2.2.1, (u.1.2.2.2.2.2.2.1, (u.1.2.2.2.2.2.2.2.1, (u.1.2.2.2.2.2.2.2.2.1, (u.1.2.2.2.2.2.2.2.2.2.1, (u.1.2.2.2.2.2.2.2.2.2.2.1, (u.1.2.2.2.2.2.2.2.2.2.2.2.1, ()))))))))))), ((), ())))
 else none
def L_ac_9 (x : i_ac_9.den) : Option (denO o_ac_9) := Qc l_ac_9 lots x
abbrev i_ac_15 : Shp := { slots := [(0, .s (.pd Y26)), (5, .s (.own 2 YI)), (6, .s (.dat YI))], boxes := [], rows := [] }
abbrev o_ac_15 : List (Ex × Shp) := [(.exit 4, { slots := [], boxes := [], rows := [] }), (.ret, { slots := [(2, .s (.dat YI))], boxes := [], rows := [] })]
def l_ac_15 (rec : i_ac_15.den → Option (denO o_ac_15)) (u : i_ac_15.den) : Option (denO o_ac_15) :=
 let v42 := ((u.1.1.1.length : Nat) : Int)
 if (ltI u.1.2.2.1 v42) then
  (L_ac_18 ((u.1.1, (u.1.2.1, (u.1.2.2.1, ((0 : Int), ())))), ((), ()))).bind fun z58 =>
  match z58 with
  | .inl x59 =>
   let v60 := (IntKind.i64.wrap (x59.1.2.2.1 + (1 : Int)))
   rec ((x59.1.1, (x59.1.2.1, (v60, ()))), ((), ()))
  | .inr z58_ =>
   match z58_ with
   | .inl x61 =>
    some (.inr (.inl ((x61.1.1, ()), ((), ()))))
   | .inr z58__ =>
    none
 else
  some (.inl ((), ((), ())))
def L_ac_15 (x : i_ac_15.den) : Option (denO o_ac_15) := Qc l_ac_15 lots x
abbrev i_ac_4 : Shp := { slots := [(0, .s (.pd Y26)), (3, .s (.dat YI))], boxes := [], rows := [] }
abbrev o_ac_4 : List (Ex × Shp) := [(.exit 0, { slots := [(0, .s (.pd Y26))], boxes := [], rows := [] }), (.ret, { slots := [(2, .s (.dat YI))], boxes := [], rows := [] })]
def l_ac_4 (rec : i_ac_4.den → Option (denO o_ac_4)) (u : i_ac_4.den) : Option (denO o_ac_4) :=
 let v12 := ((u.1.1.1.length : Nat) : Int)
 if (ltI u.1.2.1 v12) then
  if 0 ≤ u.1.2.1 then
   ((u.1.1.1)[(u.1.2.1).toNat]?).bind fun y13 =>
   let v14 := ((y13.length : Nat) : Int)
   if (ltI v14 (1 : Int)) = false then
    if 0 ≤ u.1.2.1 then
     ((u.1.1.1)[(u.1.2.1).toNat]?).bind fun y15 =>
     let v16 := ((y15.length : Nat) : Int)
     if (ltI (5 : Int) v16) then
      some (.inr (.inl (((2 : Int), ()), ((), ()))))
     else
      (L_ac_9 ((u.1.1, (u.1.2.1, ((0 : Int), (u.1.1, (u.1.1, (u.1.1.1, (u.1.1.1, (u.1.2.1, (y15, (y15, (v16, ((ltI (5 : Int) v16), ())))))))))))), ((), ()))).bind fun z27 =>
      match z27 with
      | .inl x28 =>
       let v29 := (IntKind.i64.wrap (x28.1.2.1 + (1 : Int)))
       rec ((x28.1.1, (v29, ())), ((), ()))
      | .inr z27_ =>
       match z27_ with
       | .inl x30 =>
        some (.inr (.inl ((x30.1.1, ()), ((), ()))))
       | .inr z27__ =>
        none
    else none
   else
    some (.inr (.inl (((2 : Int), ()), ((), ()))))
  else none
 else
  some (.inl ((u.1.1, ()), ((), ())))
def L_ac_4 (x : i_ac_4.den) : Option (denO o_ac_4) := Qc l_ac_4 lots x
def F_ac (x : denP P_ac) : FO P_ac R_a :=
 let v1 := ((x.1.1.length : Nat) : Int)
 if (ltI v1 (1 : Int)) = false then
  let v2 := ((x.1.1.length : Nat) : Int)
  if (ltI (3 : Int) v2) then
   some (((2 : Int), ()), ())
  else
   (L_ac_4 ((x.1, ((0 : Int), ())), ((), ()))).bind fun z31 =>
   match z31 with
   | .inl x32 =>
    (L_ac_15 ((x32.1.1, (([] : List (den YI)), ((0 : Int), ()))), ((), ()))).bind fun z62 =>
    match z62 with
    | .inl x63 =>
     some (((0 : Int), ()), ())
    | .inr z62_ =>
     match z62_ with
     | .inl x64 =>
      some ((x64.1.1, ()), ())
     | .inr z62__ =>
      none
   | .inr z31_ =>
    match z31_ with
    | .inl x65 =>
     some ((x65.1.1, ()), ())
    | .inr z31__ =>
     none
 else
  some (((2 : Int), ()), ())
abbrev C_ac : Con := ⟨P_ac, R_a, F_ac, false⟩
abbrev G_ac : Env := [(59, C_aa), (146, C_ab)]
theorem g_ac : Qe Tryz.prog G_ac := (Qa s_aa (Qa s_ab Qd))
abbrev c_ac_18 : Cut := ⟨i_ac_18, o_ac_18, fun x => Qc l_ac_18 lots x⟩
theorem k_ac_18 : Qo Tryz.prog 122 (.loop (nav Tryz.f104 [1, 1, 1, 1, 0, 1, 0, 0, 1, 0, 0, 1, 0, 0])) c_ac_18 :=
  Qf (L := []) hT g_ac (fun _ _ => by kernel_rfl) okP _
abbrev c_ac_9 : Cut := ⟨i_ac_9, o_ac_9, fun x => Qc l_ac_9 lots x⟩
theorem k_ac_9 : Qo Tryz.prog 122 (.loop (nav Tryz.f104 [1, 1, 0, 1, 0, 0, 1, 0, 0, 1, 1, 0, 0])) c_ac_9 :=
  Qf (L := []) hT g_ac (fun _ _ => by kernel_rfl) okP _
abbrev c_ac_15 : Cut := ⟨i_ac_15, o_ac_15, fun x => Qc l_ac_15 lots x⟩
theorem t_ac_15 (rec x) : run T G_ac [(18, c_ac_18)] (nav Tryz.f104 [1, 1, 1, 1, 0, 1, 0, 0]) (mk 122 i_ac_15 x) (QhF i_ac_15 o_ac_15 rec) = l_ac_15 rec x := by kernel_rfl
theorem k_ac_15 : Qo Tryz.prog 122 (.loop (nav Tryz.f104 [1, 1, 1, 1, 0, 1, 0, 0])) c_ac_15 :=
  Qf (L := [(18, c_ac_18)]) hT g_ac t_ac_15 (okS okP (okS (okB (okS okP (okB (okU k_ac_18)))) okP)) _
abbrev c_ac_4 : Cut := ⟨i_ac_4, o_ac_4, fun x => Qc l_ac_4 lots x⟩
theorem t_ac_4 (rec x) : run T G_ac [(9, c_ac_9)] (nav Tryz.f104 [1, 1, 0, 1, 0, 0]) (mk 122 i_ac_4 x) (QhF i_ac_4 o_ac_4 rec) = l_ac_4 rec x := by kernel_rfl
theorem k_ac_4 : Qo Tryz.prog 122 (.loop (nav Tryz.f104 [1, 1, 0, 1, 0, 0])) c_ac_4 :=
  Qf (L := [(9, c_ac_9)]) hT g_ac t_ac_4 (okS okP (okS (okB (okS okP (okS okP (okB (okU k_ac_9))))) okP)) _
theorem r_ac (x) : Qv T G_ac [(18, c_ac_18), (9, c_ac_9), (15, c_ac_15), (4, c_ac_4)] Tryz.f104 C_ac.ps C_ac.rs x = C_ac.F x := by kernel_rfl
theorem s_ac : Qb Tryz.prog 104 C_ac := fnC (L := [(18, c_ac_18), (9, c_ac_9), (15, c_ac_15), (4, c_ac_4)]) hT g_ac Tryz.f104 (okS okP (okS okP (okS (okS okP (okB (okU k_ac_4))) (okS okP (okS (okS okP (okB (okU k_ac_15))) okP))))) r_ac
abbrev P_ad : List PK := [.ptr Y26, .val YI]
def F_ad (x : denP P_ad) : FO P_ad R_aa :=
 let v1 := ((x.1.1.length : Nat) : Int)
 let v2 := (IntKind.i64.wrap (v1 - (1 : Int)))
 (F_aa (x.2.1, (0 : Int), v2, ())).bind fun r3 =>
 some ((r3.1.1, ()), ())
abbrev C_ad : Con := ⟨P_ad, R_aa, F_ad, false⟩
abbrev G_ad : Env := [(59, C_aa)]
theorem g_ad : Qe Tryz.prog G_ad := (Qa s_aa Qd)
theorem s_ad : Qb Tryz.prog 21 C_ad := fnC (L := []) hT g_ad Tryz.f21 okP fun _ => by kernel_rfl
abbrev P_ae : List PK := [.ptr Y26, .val YI, .val YI]
def F_ae (x : denP P_ae) : FO P_ae R_a :=
 (F_ad (x.1, x.2.1, ())).bind fun r1 =>
 if (!r1.1.1) = false then
  (F_ad (x.1, x.2.2.1, ())).bind fun r2 =>
  if (!r2.1.1) then
   some (((4 : Int), ()), ())
  else
   if (x.2.1 == x.2.2.1) then
    some (((1 : Int), ()), ())
   else
    some (((0 : Int), ()), ())
 else
  some (((4 : Int), ()), ())
abbrev C_ae : Con := ⟨P_ae, R_a, F_ae, false⟩
abbrev G_ae : Env := [(21, C_ad)]
theorem g_ae : Qe Tryz.prog G_ae := (Qa s_ad Qd)
theorem s_ae : Qb Tryz.prog 147 C_ae := fnC (L := []) hT g_ae Tryz.f147 okP fun _ => by kernel_rfl
abbrev i_af_2 : Shp := { slots := [(0, .s (.pd Y26)), (1, .s (.dat YI)), (5, .s (.dat YI))], boxes := [], rows := [] }
abbrev o_af_2 : List (Ex × Shp) := [(.exit 0, { slots := [], boxes := [], rows := [] }), (.ret, { slots := [(4, .s (.dat YI))], boxes := [], rows := [] })]
def l_af_2 (rec : i_af_2.den → Option (denO o_af_2)) (u : i_af_2.den) : Option (denO o_af_2) :=
 let v3 := ((u.1.1.1.length : Nat) : Int)
 if (ltI u.1.2.2.1 v3) then
  if 0 ≤ u.1.2.2.1 then
   ((u.1.1.1)[(u.1.2.2.1).toNat]?).bind fun y4 =>
   (F_ab (y4, u.1.2.1, ())).bind fun r5 =>
   if r5.1.1 then
    some (.inr (.inl ((u.1.2.2.1, ()), ((), ()))))
   else
    let v6 := (IntKind.i64.wrap (u.1.2.2.1 + (1 : Int)))
    rec ((u.1.1, (u.1.2.1, (v6, ()))), ((), ()))
  else none
 else
  some (.inl ((), ((), ())))
def L_af_2 (x : i_af_2.den) : Option (denO o_af_2) := Qc l_af_2 lots x
def F_af (x : denP P_ad) : FO P_ad R_a :=
 (L_af_2 ((x.1, (x.2.1, ((0 : Int), ()))), ((), ()))).bind fun z7 =>
 match z7 with
 | .inl x8 =>
  some (((-1 : Int), ()), ())
 | .inr z7_ =>
  match z7_ with
  | .inl x9 =>
   some ((x9.1.1, ()), ())
  | .inr z7__ =>
   none
abbrev C_af : Con := ⟨P_ad, R_a, F_af, false⟩
abbrev G_af : Env := [(146, C_ab)]
theorem g_af : Qe Tryz.prog G_af := (Qa s_ab Qd)
abbrev c_af_2 : Cut := ⟨i_af_2, o_af_2, fun x => Qc l_af_2 lots x⟩
theorem k_af_2 : Qo Tryz.prog 25 (.loop (nav Tryz.f148 [1, 0, 1, 0, 0])) c_af_2 :=
  Qf (L := []) hT g_af (fun _ _ => by kernel_rfl) okP _
theorem r_af (x) : Qv T G_af [(2, c_af_2)] Tryz.f148 C_af.ps C_af.rs x = C_af.F x := by kernel_rfl
theorem s_af : Qb Tryz.prog 148 C_af := fnC (L := [(2, c_af_2)]) hT g_af Tryz.f148 (okS okP (okS (okS okP (okB (okU k_af_2))) okP)) r_af
abbrev P_ag : List PK := [.val Y78, .val YI, .val YI]
def F_ag (x : denP P_ag) : FO P_ag R_aa :=
 if (x.1.1 == x.2.1) = true then
  if (x.1.2.2.2.1 == x.2.2.1) = false then
   if (x.1.2.1 == x.2.1) = true then
    some (((x.1.2.2.2.2.1 == x.2.2.1), ()), ())
   else
    some ((false, ()), ())
  else
   some ((true, ()), ())
 else
  if (x.1.2.1 == x.2.1) = true then
   some (((x.1.2.2.2.2.1 == x.2.2.1), ()), ())
  else
   some ((false, ()), ())
abbrev C_ag : Con := ⟨P_ag, R_aa, F_ag, false⟩
theorem s_ag : Qb Tryz.prog 149 C_ag := fnC (L := []) hT g_a Tryz.f149 okP fun _ => by kernel_rfl
abbrev i_ah_15 : Shp := { slots := [(0, .s (.pd Y26)), (3, .s (.dat YI)), (4, .s (.ptr 4 0)), (6, .s (.dat YI)), (52, .s (.ptr 4 3)), (53, .s (.dat YI)), (54, .s (.dat .bool)), (55, .s (.dat .bool)), (58, .s (.ptr 4 4)), (59, .s (.dat YI)), (60, .s (.dat .bool)), (61, .s (.dat .bool))], boxes := [(4, [.dat YI, .dat YI, .dat YI, .dat YI, .dat YI])], rows := [] }
abbrev o_ah_15 : List (Ex × Shp) := [(.exit 2, { slots := [(0, .s (.pd Y26)), (3, .s (.dat YI)), (52, .s (.ptr 4 3)), (53, .s (.dat YI)), (54, .s (.dat .bool)), (55, .s (.dat .bool)), (58, .s (.ptr 4 4)), (59, .s (.dat YI)), (60, .s (.dat .bool)), (61, .s (.dat .bool))], boxes := [(4, [.dat YI, .dat YI, .dat YI, .dat YI, .dat YI])], rows := [] }), (.ret, { slots := [(2, .s (.dat YI))], boxes := [], rows := [] })]
def l_ah_15 (rec : i_ah_15.den → Option (denO o_ah_15)) (u : i_ah_15.den) : Option (denO o_ah_15) :=
 if (ltI u.1.2.2.2.1 u.1.2.1) then
  if 0 ≤ u.1.2.2.2.1 then
   ((u.1.1.2.1)[(u.1.2.2.2.1).toNat]?).bind fun y25 =>
   if (y25.2.2.1 == u.2.1.1.2.2.1) = false then
    (F_ag (y25, u.2.1.1.1, u.2.1.1.2.2.2.1, ())).bind fun r26 =>
    if r26.1.1 = false then
     (F_ag (y25, u.2.1.1.2.1, u.2.1.1.2.2.2.2.1, ())).bind fun r27 =>
     if r27.1.1 then
      some (.inr (.inl (((6 : Int), ()), ((), ()))))
     else
      let v28 := (IntKind.i64.wrap (u.1.2.2.2.1 + (1 : Int)))
      rec ((u.1.1, (u.1.2.1, ((), (v28, ((), (u.1.2.2.2.2.2.1, (u.1.2.2.2.2.2.2.1, (u.1.2.2.2.2.2.2.2.1, ((), (u.1.2.2.2.2.2.2.2.2.2.1, (u.1.2.2.2.2.2.2.2.2.2.2.1, (u.1.2.2.2.2.2.2.2.2.2.2.2.1, ())))))))))))), ((u.2.1.1, ()), ()))
    else
     some (.inr (.inl (((6 : Int), ()), ((), ()))))
   else
    some (.inr (.inl (((6 : Int), ()), ((), ()))))
  else none
 else
  some (.inl ((u.1.1, (u.1.2.1, ((), (u.1.2.2.2.2.2.1, (u.1.2.2.2.2.2.2.1, (u.1.2.2.2.2.2.2.2.1, ((), (u.1.2.2.2.2.2.2.2.2.2.1, (u.1.2.2.2.2.2.2.2.2.2.2.1, (u.1.2.2.2.2.2.2.2.2.2.2.2.1, ())))))))))), ((u.2.1.1, ()), ())))
def L_ah_15 (x : i_ah_15.den) : Option (denO o_ah_15) := Qc l_ah_15 lots x
abbrev o_ah_4 : List (Ex × Shp) := [(.exit 0, { slots := [], boxes := [], rows := [] }), (.ret, { slots := [(2, .s (.dat YI))], boxes := [], rows := [] })]
def l_ah_4 (rec : i_ac_4.den → Option (denO o_ah_4)) (u : i_ac_4.den) : Option (denO o_ah_4) :=
 let v15 := ((u.1.1.2.1.length : Nat) : Int)
 if (ltI u.1.2.1 v15) then
  if 0 ≤ u.1.2.1 then
   ((u.1.1.2.1)[(u.1.2.1).toNat]?).bind fun y16 =>
   (F_ae (u.1.1, y16.1, y16.2.1, ())).bind fun r17 =>
   if (r17.1.1 != (0 : Int)) then
    some (.inr (.inl ((r17.1.1, ()), ((), ()))))
   else
    (F_aa (y16.2.2.1, (0 : Int), (23 : Int), ())).bind fun r18 =>
    if (!r18.1.1) = false then
     (F_aa (y16.2.2.2.1, (5 : Int), (6 : Int), ())).bind fun r19 =>
     if (!r19.1.1) = false then
      (F_aa (y16.2.2.2.2.1, (5 : Int), (6 : Int), ())).bind fun r20 =>
      if (!r20.1.1) then
       some (.inr (.inl (((3 : Int), ()), ((), ()))))
      else
       (F_af (u.1.1, y16.2.2.1, ())).bind fun r21 =>
       if (leI (0 : Int) r21.1.1) then
        some (.inr (.inl (((6 : Int), ()), ((), ()))))
       else
        (L_ah_15 ((u.1.1, (u.1.2.1, ((), ((0 : Int), ((), (y16.2.2.2.1, (r19.1.1, ((!r19.1.1), ((), (y16.2.2.2.2.1, (r20.1.1, ((!r20.1.1), ())))))))))))), (((y16.1, (y16.2.1, (y16.2.2.1, (y16.2.2.2.1, (y16.2.2.2.2.1, ()))))), ()), ()))).bind fun z29 =>
        match z29 with
        | .inl x30 =>
         let v31 := (IntKind.i64.wrap (x30.1.2.1 + (1 : Int)))
         rec ((x30.1.1, (v31, ())), ((), ()))
        | .inr z29_ =>
         match z29_ with
         | .inl x32 =>
          some (.inr (.inl ((x32.1.1, ()), ((), ()))))
         | .inr z29__ =>
          none
     else
      some (.inr (.inl (((3 : Int), ()), ((), ()))))
    else
     some (.inr (.inl (((3 : Int), ()), ((), ()))))
  else none
 else
  some (.inl ((), ((), ())))
def L_ah_4 (x : i_ac_4.den) : Option (denO o_ah_4) := Qc l_ah_4 lots x
def F_ah (x : denP P_ac) : FO P_ac R_a :=
 let v1 := ((x.1.2.1.length : Nat) : Int)
 if (ltI (4 : Int) v1) = false then
  let v2 := ((x.1.2.2.1.length : Nat) : Int)
  if (ltI (4 : Int) v2) then
   some (((2 : Int), ()), ())
  else
   (L_ah_4 ((x.1, ((0 : Int), ())), ((), ()))).bind fun z33 =>
   match z33 with
   | .inl x34 =>
    some (((0 : Int), ()), ())
   | .inr z33_ =>
    match z33_ with
    | .inl x35 =>
     some ((x35.1.1, ()), ())
    | .inr z33__ =>
     none
 else
  some (((2 : Int), ()), ())
abbrev C_ah : Con := ⟨P_ac, R_a, F_ah, false⟩
abbrev G_ah : Env := [(59, C_aa), (147, C_ae), (148, C_af), (149, C_ag)]
theorem g_ah : Qe Tryz.prog G_ah := (Qa s_aa (Qa s_ae (Qa s_af (Qa s_ag Qd))))
abbrev c_ah_15 : Cut := ⟨i_ah_15, o_ah_15, fun x => Qc l_ah_15 lots x⟩
theorem k_ah_15 : Qo Tryz.prog 101 (.loop (nav Tryz.f105 [1, 1, 0, 1, 0, 0, 1, 0, 0, 1, 1, 1, 1, 1, 0, 0])) c_ah_15 :=
  Qf (L := []) hT g_ah (fun _ _ => by kernel_rfl) okP _
abbrev c_ah_4 : Cut := ⟨i_ac_4, o_ah_4, fun x => Qc l_ah_4 lots x⟩
theorem t_ah_4 (rec x) : run T G_ah [(15, c_ah_15)] (nav Tryz.f105 [1, 1, 0, 1, 0, 0]) (mk 101 i_ac_4 x) (QhF i_ac_4 o_ah_4 rec) = l_ah_4 rec x := by kernel_rfl
theorem k_ah_4 : Qo Tryz.prog 101 (.loop (nav Tryz.f105 [1, 1, 0, 1, 0, 0])) c_ah_4 :=
  Qf (L := [(15, c_ah_15)]) hT g_ah t_ah_4 (okS okP (okS (okB (okS okP (okS okP (okS okP (okS okP (okS okP (okB (okU k_ah_15)))))))) okP)) _
theorem r_ah (x) : Qv T G_ah [(15, c_ah_15), (4, c_ah_4)] Tryz.f105 C_ah.ps C_ah.rs x = C_ah.F x := by kernel_rfl
theorem s_ah : Qb Tryz.prog 105 C_ah := fnC (L := [(15, c_ah_15), (4, c_ah_4)]) hT g_ah Tryz.f105 (okS okP (okS okP (okS (okS okP (okB (okU k_ah_4))) okP))) r_ah
abbrev i_ai_9 : Shp := { slots := [(0, .s (.pd Y26)), (3, .s (.dat YI)), (4, .s (.ptr 4 0)), (6, .s (.dat YI))], boxes := [(4, [.dat YI, .dat YI])], rows := [] }
abbrev o_ai_9 : List (Ex × Shp) := [(.exit 2, { slots := [(0, .s (.pd Y26)), (3, .s (.dat YI))], boxes := [], rows := [] }), (.ret, { slots := [(2, .s (.dat YI))], boxes := [], rows := [] })]
def l_ai_9 (rec : i_ai_9.den → Option (denO o_ai_9)) (u : i_ai_9.den) : Option (denO o_ai_9) :=
 if (ltI u.1.2.2.2.1 u.1.2.1) then
  if 0 ≤ u.1.2.2.2.1 then
   ((u.1.1.2.2.1)[(u.1.2.2.2.1).toNat]?).bind fun y11 =>
   if ((y11.1 == u.2.1.1.1) && ((y11.2.1 == u.2.1.1.2.1) && true)) then
    some (.inr (.inl (((6 : Int), ()), ((), ()))))
   else
    let v12 := (IntKind.i64.wrap (u.1.2.2.2.1 + (1 : Int)))
    rec ((u.1.1, (u.1.2.1, ((), (v12, ())))), ((u.2.1.1, ()), ()))
  else none
 else
  some (.inl ((u.1.1, (u.1.2.1, ())), ((), ())))
def L_ai_9 (x : i_ai_9.den) : Option (denO o_ai_9) := Qc l_ai_9 lots x
abbrev i_ai_16 : Shp := { slots := [(0, .s (.pd Y26)), (7, .s (.dat YI))], boxes := [], rows := [] }
def l_ai_16 (rec : i_ai_16.den → Option (denO o_ac_15)) (u : i_ai_16.den) : Option (denO o_ac_15) :=
 let v25 := ((u.1.1.2.2.2.1.length : Nat) : Int)
 if (ltI u.1.2.1 v25) then
  if 0 ≤ u.1.2.1 then
   ((u.1.1.2.2.2.1)[(u.1.2.1).toNat]?).bind fun y26 =>
   (F_ad (u.1.1, y26.1, ())).bind fun r27 =>
   if (!r27.1.1) then
    some (.inr (.inl (((4 : Int), ()), ((), ()))))
   else
    if 0 ≤ u.1.2.1 then
     ((u.1.1.2.2.2.1)[(u.1.2.1).toNat]?).bind fun y28 =>
     (F_aa (y28.2.1, (1 : Int), (50 : Int), ())).bind fun r29 =>
     if (!r29.1.1) then
      some (.inr (.inl (((3 : Int), ()), ((), ()))))
     else
      let v30 := (IntKind.i64.wrap (u.1.2.1 + (1 : Int)))
      rec ((u.1.1, (v30, ())), ((), ()))
    else none
  else none
 else
  some (.inl ((), ((), ())))
def L_ai_16 (x : i_ai_16.den) : Option (denO o_ac_15) := Qc l_ai_16 lots x
def l_ai_2 (rec : i_ac_4.den → Option (denO o_ac_4)) (u : i_ac_4.den) : Option (denO o_ac_4) :=
 let v7 := ((u.1.1.2.2.1.length : Nat) : Int)
 if (ltI u.1.2.1 v7) then
  if 0 ≤ u.1.2.1 then
   ((u.1.1.2.2.1)[(u.1.2.1).toNat]?).bind fun y8 =>
   (F_ae (u.1.1, y8.1, y8.2.1, ())).bind fun r9 =>
   if (r9.1.1 != (0 : Int)) then
    some (.inr (.inl ((r9.1.1, ()), ((), ()))))
   else
    (L_ai_9 ((u.1.1, (u.1.2.1, ((), ((0 : Int), ())))), (((y8.1, (y8.2.1, ())), ()), ()))).bind fun z13 =>
    match z13 with
    | .inl x14 =>
     let v15 := (IntKind.i64.wrap (x14.1.2.1 + (1 : Int)))
     rec ((x14.1.1, (v15, ())), ((), ()))
    | .inr z13_ =>
     match z13_ with
     | .inl x16 =>
      some (.inr (.inl ((x16.1.1, ()), ((), ()))))
     | .inr z13__ =>
      none
  else none
 else
  some (.inl ((u.1.1, ()), ((), ())))
def L_ai_2 (x : i_ac_4.den) : Option (denO o_ac_4) := Qc l_ai_2 lots x
def F_ai (x : denP P_ac) : FO P_ac R_a :=
 (L_ai_2 ((x.1, ((0 : Int), ())), ((), ()))).bind fun z17 =>
 match z17 with
 | .inl x18 =>
  let v19 := ((x18.1.1.2.2.2.1.length : Nat) : Int)
  if (ltI v19 (1 : Int)) = false then
   let v20 := ((x18.1.1.2.2.2.1.length : Nat) : Int)
   if (ltI (8 : Int) v20) then
    some (((2 : Int), ()), ())
   else
    (L_ai_16 ((x18.1.1, ((0 : Int), ())), ((), ()))).bind fun z31 =>
    match z31 with
    | .inl x32 =>
     some (((0 : Int), ()), ())
    | .inr z31_ =>
     match z31_ with
     | .inl x33 =>
      some ((x33.1.1, ()), ())
     | .inr z31__ =>
      none
  else
   some (((2 : Int), ()), ())
 | .inr z17_ =>
  match z17_ with
  | .inl x34 =>
   some ((x34.1.1, ()), ())
  | .inr z17__ =>
   none
abbrev C_ai : Con := ⟨P_ac, R_a, F_ai, false⟩
abbrev G_ai : Env := [(21, C_ad), (59, C_aa), (147, C_ae)]
theorem g_ai : Qe Tryz.prog G_ai := (Qa s_ad (Qa s_aa (Qa s_ae Qd)))
abbrev c_ai_9 : Cut := ⟨i_ai_9, o_ai_9, fun x => Qc l_ai_9 lots x⟩
theorem k_ai_9 : Qo Tryz.prog 91 (.loop (nav Tryz.f106 [1, 0, 1, 0, 0, 1, 0, 0, 1, 1, 1, 0, 0])) c_ai_9 :=
  Qf (L := []) hT g_ai (fun _ _ => by kernel_rfl) okP _
abbrev c_ai_16 : Cut := ⟨i_ai_16, o_ac_15, fun x => Qc l_ai_16 lots x⟩
theorem k_ai_16 : Qo Tryz.prog 91 (.loop (nav Tryz.f106 [1, 1, 1, 0, 1, 0, 0])) c_ai_16 :=
  Qf (L := []) hT g_ai (fun _ _ => by kernel_rfl) okP _
abbrev c_ai_2 : Cut := ⟨i_ac_4, o_ac_4, fun x => Qc l_ai_2 lots x⟩
theorem t_ai_2 (rec x) : run T G_ai [(9, c_ai_9)] (nav Tryz.f106 [1, 0, 1, 0, 0]) (mk 91 i_ac_4 x) (QhF i_ac_4 o_ac_4 rec) = l_ai_2 rec x := by kernel_rfl
theorem k_ai_2 : Qo Tryz.prog 91 (.loop (nav Tryz.f106 [1, 0, 1, 0, 0])) c_ai_2 :=
  Qf (L := [(9, c_ai_9)]) hT g_ai t_ai_2 (okS okP (okS (okB (okS okP (okS okP (okS okP (okB (okU k_ai_9)))))) okP)) _
theorem r_ai (x) : Qv T G_ai [(9, c_ai_9), (16, c_ai_16), (2, c_ai_2)] Tryz.f106 C_ai.ps C_ai.rs x = C_ai.F x := by kernel_rfl
theorem s_ai : Qb Tryz.prog 106 C_ai := fnC (L := [(9, c_ai_9), (16, c_ai_16), (2, c_ai_2)]) hT g_ai Tryz.f106 (okS okP (okS (okS okP (okB (okU k_ai_2))) (okS okP (okS (okS okP (okB (okU k_ai_16))) okP)))) r_ai
def F_aj (x : denP P_ac) : FO P_ac R_a :=
 (F_ac (x.1, ())).bind fun r1 =>
 if (r1.1.1 != (0 : Int)) then
  some ((r1.1.1, ()), ())
 else
  (F_ah (x.1, ())).bind fun r2 =>
  if (r2.1.1 != (0 : Int)) then
   some ((r2.1.1, ()), ())
  else
   (F_ai (x.1, ())).bind fun r3 =>
   some ((r3.1.1, ()), ())
abbrev C_aj : Con := ⟨P_ac, R_a, F_aj, false⟩
abbrev G_aj : Env := [(104, C_ac), (105, C_ah), (106, C_ai)]
theorem g_aj : Qe Tryz.prog G_aj := (Qa s_ac (Qa s_ah (Qa s_ai Qd)))
theorem s_aj : Qb Tryz.prog 56 C_aj := fnC (L := []) hT g_aj Tryz.f56 okP fun _ => by kernel_rfl
abbrev i_ak_4 : Shp := { slots := [(0, .s (.dat Y28)), (3, .s (.dat YI))], boxes := [], rows := [] }
def l_ak_4 (rec : i_ak_4.den → Option (denO o_ah_4)) (u : i_ak_4.den) : Option (denO o_ah_4) :=
 let v7 := ((u.1.1.length : Nat) : Int)
 if (ltI u.1.2.1 v7) then
  if 0 ≤ u.1.2.1 then
   ((u.1.1)[(u.1.2.1).toNat]?).bind fun y8 =>
   (F_aa (y8, (0 : Int), (4294967295 : Int), ())).bind fun r9 =>
   if (!r9.1.1) then
    some (.inr (.inl (((3 : Int), ()), ((), ()))))
   else
    let v10 := (IntKind.i64.wrap (u.1.2.1 + (1 : Int)))
    rec ((u.1.1, (v10, ())), ((), ()))
  else none
 else
  some (.inl ((), ((), ())))
def L_ak_4 (x : i_ak_4.den) : Option (denO o_ah_4) := Qc l_ak_4 lots x
def F_ak (x : denP P_l) : FO P_l R_a :=
 let v1 := ((x.1.length : Nat) : Int)
 let v2 := ((v1).tmod (8 : Int))
 if (v2 != (0 : Int)) = false then
  let v3 := ((x.1.length : Nat) : Int)
  if (ltI v3 (8 : Int)) = false then
   let v4 := ((x.1.length : Nat) : Int)
   if (ltI (192 : Int) v4) then
    some (((1 : Int), ()), ())
   else
    (L_ak_4 ((x.1, ((0 : Int), ())), ((), ()))).bind fun z11 =>
    match z11 with
    | .inl x12 =>
     some (((0 : Int), ()), ())
    | .inr z11_ =>
     match z11_ with
     | .inl x13 =>
      some ((x13.1.1, ()), ())
     | .inr z11__ =>
      none
  else
   some (((1 : Int), ()), ())
 else
  some (((1 : Int), ()), ())
abbrev C_ak : Con := ⟨P_l, R_a, F_ak, false⟩
theorem g_ak : Qe Tryz.prog G_ad := (Qa s_aa Qd)
abbrev c_ak_4 : Cut := ⟨i_ak_4, o_ah_4, fun x => Qc l_ak_4 lots x⟩
theorem k_ak_4 : Qo Tryz.prog 30 (.loop (nav Tryz.f62 [1, 1, 0, 1, 0, 0])) c_ak_4 :=
  Qf (L := []) hT g_ak (fun _ _ => by kernel_rfl) okP _
theorem r_ak (x) : Qv T G_ad [(4, c_ak_4)] Tryz.f62 C_ak.ps C_ak.rs x = C_ak.F x := by kernel_rfl
theorem s_ak : Qb Tryz.prog 62 C_ak := fnC (L := [(4, c_ak_4)]) hT g_ak Tryz.f62 (okS okP (okS okP (okS (okS okP (okB (okU k_ak_4))) okP))) r_ak
def F_al (x : denP P_l) : FO P_l R_aa :=
 (F_ak (x.1, ())).bind fun r1 =>
 if (r1.1.1 == (0 : Int)) = true then
  let v2 := ((x.1.length : Nat) : Int)
  some (((v2 == (192 : Int)), ()), ())
 else
  some ((false, ()), ())
abbrev C_al : Con := ⟨P_l, R_aa, F_al, false⟩
abbrev G_al : Env := [(62, C_ak)]
theorem g_al : Qe Tryz.prog G_al := (Qa s_ak Qd)
theorem s_al : Qb Tryz.prog 57 C_al := fnC (L := []) hT g_al Tryz.f57 okP fun _ => by kernel_rfl
abbrev P_am : List PK := [.val YI]
def F_am (x : denP P_am) : FO P_am R_aa :=
 (F_aa (x.1, (0 : Int), (4294967295 : Int), ())).bind fun r1 =>
 some ((r1.1.1, ()), ())
abbrev C_am : Con := ⟨P_am, R_aa, F_am, false⟩
theorem g_am : Qe Tryz.prog G_ad := (Qa s_aa Qd)
theorem s_am : Qb Tryz.prog 108 C_am := fnC (L := []) hT g_am Tryz.f108 okP fun _ => by kernel_rfl
abbrev o_an_2 : List (Ex × Shp) := [(.exit 0, { slots := [], boxes := [], rows := [] }), (.ret, { slots := [(2, .s (.dat .bool))], boxes := [], rows := [] })]
def l_an_2 (rec : i_ak_4.den → Option (denO o_an_2)) (u : i_ak_4.den) : Option (denO o_an_2) :=
 let v3 := ((u.1.1.length : Nat) : Int)
 if (ltI u.1.2.1 v3) then
  if 0 ≤ u.1.2.1 then
   ((u.1.1)[(u.1.2.1).toNat]?).bind fun y4 =>
   (F_am (y4, ())).bind fun r5 =>
   if (!r5.1.1) then
    some (.inr (.inl ((false, ()), ((), ()))))
   else
    let v6 := (IntKind.i64.wrap (u.1.2.1 + (1 : Int)))
    rec ((u.1.1, (v6, ())), ((), ()))
  else none
 else
  some (.inl ((), ((), ())))
def L_an_2 (x : i_ak_4.den) : Option (denO o_an_2) := Qc l_an_2 lots x
def F_an (x : denP P_l) : FO P_l R_aa :=
 (L_an_2 ((x.1, ((0 : Int), ())), ((), ()))).bind fun z7 =>
 match z7 with
 | .inl x8 =>
  some ((true, ()), ())
 | .inr z7_ =>
  match z7_ with
  | .inl x9 =>
   some ((x9.1.1, ()), ())
  | .inr z7__ =>
   none
abbrev C_an : Con := ⟨P_l, R_aa, F_an, false⟩
abbrev G_an : Env := [(108, C_am)]
theorem g_an : Qe Tryz.prog G_an := (Qa s_am Qd)
abbrev c_an_2 : Cut := ⟨i_ak_4, o_an_2, fun x => Qc l_an_2 lots x⟩
theorem k_an_2 : Qo Tryz.prog 16 (.loop (nav Tryz.f107 [1, 0, 1, 0, 0])) c_an_2 :=
  Qf (L := []) hT g_an (fun _ _ => by kernel_rfl) okP _
theorem r_an (x) : Qv T G_an [(2, c_an_2)] Tryz.f107 C_an.ps C_an.rs x = C_an.F x := by kernel_rfl
theorem s_an : Qb Tryz.prog 107 C_an := fnC (L := [(2, c_an_2)]) hT g_an Tryz.f107 (okS okP (okS (okS okP (okB (okU k_an_2))) okP)) r_an
abbrev P_ao : List PK := [.ptr Y32]
def F_ao (x : denP P_ao) : FO P_ao R_a :=
 let v1 := ((x.1.1.length : Nat) : Int)
 if (v1 != (16 : Int)) = false then
  let v2 := ((x.1.2.2.1.length : Nat) : Int)
  if (v2 != (11 : Int)) = false then
   ((x.1.1)[((0 : Int)).toNat]?).bind fun y3 =>
   if (y3 != (0 : Int)) then
    some (((1 : Int), ()), ())
   else
    (F_an (x.1.1, ())).bind fun r4 =>
    if (!r4.1.1) = false then
     (F_am (x.1.2.1, ())).bind fun r5 =>
     if (!r5.1.1) = false then
      (F_an (x.1.2.2.1, ())).bind fun r6 =>
      if (!r6.1.1) = false then
       (F_an (x.1.2.2.2.2.2.2.2.1, ())).bind fun r7 =>
       if (!r7.1.1) = false then
        (F_an (x.1.2.2.2.2.2.2.2.2.1, ())).bind fun r8 =>
        if (!r8.1.1) then
         some (((3 : Int), ()), ())
        else
         let v9 := ((x.1.2.2.2.2.2.2.2.1.length : Nat) : Int)
         if (ltI (40 : Int) v9) = false then
          let v10 := ((x.1.2.2.2.2.2.2.2.2.1.length : Nat) : Int)
          if (ltI (40 : Int) v10) then
           some (((2 : Int), ()), ())
          else
           (F_aa (x.1.2.2.2.2.2.2.1, (0 : Int), (1000000000 : Int), ())).bind fun r11 =>
           if (!r11.1.1) then
            some (((3 : Int), ()), ())
           else
            ((x.1.2.2.1)[((0 : Int)).toNat]?).bind fun y12 =>
            if (ltI (3 : Int) y12) = false then
             ((x.1.2.2.1)[((7 : Int)).toNat]?).bind fun y13 =>
             if (ltI (7 : Int) y13) = false then
              ((x.1.2.2.1)[((10 : Int)).toNat]?).bind fun y14 =>
              if (ltI (8 : Int) y14) = false then
               ((x.1.2.2.1)[((6 : Int)).toNat]?).bind fun y15 =>
               if (y15 != (0 : Int)) = false then
                ((x.1.2.2.1)[((8 : Int)).toNat]?).bind fun y16 =>
                if (y16 != (0 : Int)) then
                 some (((1 : Int), ()), ())
                else
                 some (((0 : Int), ()), ())
               else
                some (((1 : Int), ()), ())
              else
               some (((1 : Int), ()), ())
             else
              some (((1 : Int), ()), ())
            else
             some (((1 : Int), ()), ())
         else
          some (((2 : Int), ()), ())
       else
        some (((3 : Int), ()), ())
      else
       some (((3 : Int), ()), ())
     else
      some (((3 : Int), ()), ())
    else
     some (((3 : Int), ()), ())
  else
   some (((1 : Int), ()), ())
 else
  some (((1 : Int), ()), ())
abbrev C_ao : Con := ⟨P_ao, R_a, F_ao, false⟩
abbrev G_ao : Env := [(59, C_aa), (107, C_an), (108, C_am)]
theorem g_ao : Qe Tryz.prog G_ao := (Qa s_aa (Qa s_an (Qa s_am Qd)))
theorem s_ao : Qb Tryz.prog 58 C_ao := fnC (L := []) hT g_ao Tryz.f58 okP fun _ => by kernel_rfl
abbrev R_ap : List VK := [.s (.dat YI), .s (.dat YI)]
abbrev i_ap_8 : Shp := { slots := [(0, .s (.pd Y26)), (8, .s (.dat YI)), (9, .s (.dat YI))], boxes := [], rows := [] }
abbrev o_ap_8 : List (Ex × Shp) := [(.exit 2, { slots := [(0, .s (.pd Y26)), (8, .s (.dat YI)), (9, .s (.dat YI))], boxes := [], rows := [] })]
def l_ap_8 (rec : i_ap_8.den → Option (denO o_ap_8)) (u : i_ap_8.den) : Option (denO o_ap_8) :=
 if 0 ≤ u.1.2.2.1 then
  ((u.1.1.2.2.2.1)[(u.1.2.2.1).toNat]?).bind fun y11 =>
  if (leI y11.2.1 u.1.2.1) then
   if 0 ≤ u.1.2.2.1 then
    ((u.1.1.2.2.2.1)[(u.1.2.2.1).toNat]?).bind fun y12 =>
    let v13 := (IntKind.i64.wrap (u.1.2.1 - y12.2.1))
    let v14 := (IntKind.i64.wrap (u.1.2.2.1 + (1 : Int)))
    rec ((u.1.1, (v13, (v14, ()))), ((), ()))
   else none
  else
   some (.inl ((u.1.1, (u.1.2.1, (u.1.2.2.1, ()))), ((), ())))
 else none
def L_ap_8 (x : i_ap_8.den) : Option (denO o_ap_8) := Qc l_ap_8 lots x
abbrev i_ap_3 : Shp := { slots := [(0, .s (.pd Y26)), (1, .s (.dat YI)), (6, .s (.dat YI)), (7, .s (.dat YI))], boxes := [], rows := [] }
abbrev o_ap_3 : List (Ex × Shp) := [(.exit 0, { slots := [(0, .s (.pd Y26)), (1, .s (.dat YI)), (6, .s (.dat YI))], boxes := [], rows := [] })]
def l_ap_3 (rec : i_ap_3.den → Option (denO o_ap_3)) (u : i_ap_3.den) : Option (denO o_ap_3) :=
 let v2 := ((u.1.1.2.2.2.1.length : Nat) : Int)
 if (ltI u.1.2.2.2.1 v2) then
  if 0 ≤ u.1.2.2.2.1 then
   ((u.1.1.2.2.2.1)[(u.1.2.2.2.1).toNat]?).bind fun y3 =>
   let v4 := (IntKind.i64.wrap (u.1.2.2.1 + y3.2.1))
   let v5 := (IntKind.i64.wrap (u.1.2.2.2.1 + (1 : Int)))
   rec ((u.1.1, (u.1.2.1, (v4, (v5, ())))), ((), ()))
  else none
 else
  some (.inl ((u.1.1, (u.1.2.1, (u.1.2.2.1, ()))), ((), ())))
def L_ap_3 (x : i_ap_3.den) : Option (denO o_ap_3) := Qc l_ap_3 lots x
def F_ap (x : denP P_ad) : FO P_ad R_ap :=
 (L_ap_3 ((x.1, (x.2.1, ((0 : Int), ((0 : Int), ())))), ((), ()))).bind fun z6 =>
 match z6 with
 | .inl x7 =>
  if x7.1.2.2.1 = 0 then none else
  let v8 := ((x7.1.2.1).tmod x7.1.2.2.1)
  (L_ap_8 ((x7.1.1, (v8, ((0 : Int), ()))), ((), ()))).bind fun z15 =>
  match z15 with
  | .inl x16 =>
   if 0 ≤ x16.1.2.2.1 then
    ((x16.1.1.2.2.2.1)[(x16.1.2.2.1).toNat]?).bind fun y17 =>
    let v18 := (IntKind.i64.wrap (y17.2.1 - x16.1.2.1))
    some ((x16.1.2.2.1, v18, ()), ())
   else none
  | .inr z15_ =>
   none
 | .inr z6_ =>
  none
abbrev C_ap : Con := ⟨P_ad, R_ap, F_ap, false⟩
abbrev c_ap_8 : Cut := ⟨i_ap_8, o_ap_8, fun x => Qc l_ap_8 lots x⟩
theorem k_ap_8 : Qo Tryz.prog 65 (.loop (nav Tryz.f60 [1, 1, 1, 1, 1, 0, 0, 0])) c_ap_8 :=
  Qf (L := []) hT g_a (fun _ _ => by kernel_rfl) okP _
abbrev c_ap_3 : Cut := ⟨i_ap_3, o_ap_3, fun x => Qc l_ap_3 lots x⟩
theorem k_ap_3 : Qo Tryz.prog 65 (.loop (nav Tryz.f60 [1, 1, 0, 1, 0, 0])) c_ap_3 :=
  Qf (L := []) hT g_a (fun _ _ => by kernel_rfl) okP _
theorem r_ap (x) : Qv T G_a [(8, c_ap_8), (3, c_ap_3)] Tryz.f60 C_ap.ps C_ap.rs x = C_ap.F x := by kernel_rfl
theorem s_ap : Qb Tryz.prog 60 C_ap := fnC (L := [(8, c_ap_8), (3, c_ap_3)]) hT g_a Tryz.f60 (okS okP (okS okP (okS (okS okP (okB (okU k_ap_3))) (okS okP (okS okP (okS (okB (okU k_ap_8)) okP)))))) r_ap
abbrev P_aq : List PK := [.ptr Y30]
abbrev i_aq_7 : Shp := { slots := [(0, .s (.pd Y30)), (4, .s (.dat YI))], boxes := [], rows := [] }
abbrev o_aq_7 : List (Ex × Shp) := [(.exit 0, { slots := [(0, .s (.pd Y30))], boxes := [], rows := [] }), (.ret, { slots := [(2, .s (.dat YI))], boxes := [], rows := [] })]
def l_aq_7 (rec : i_aq_7.den → Option (denO o_aq_7)) (u : i_aq_7.den) : Option (denO o_aq_7) :=
 let v7 := ((u.1.1.2.2.1.length : Nat) : Int)
 if (ltI u.1.2.1 v7) then
  if 0 ≤ u.1.2.1 then
   ((u.1.1.2.2.1)[(u.1.2.1).toNat]?).bind fun y8 =>
   (F_ao (y8, ())).bind fun r9 =>
   if (r9.1.1 != (0 : Int)) then
    some (.inr (.inl ((r9.1.1, ()), ((), ()))))
   else
    let v10 := (IntKind.i64.wrap (u.1.2.1 + (1 : Int)))
    rec ((u.1.1, (v10, ())), ((), ()))
  else none
 else
  some (.inl ((u.1.1, ()), ((), ())))
def L_aq_7 (x : i_aq_7.den) : Option (denO o_aq_7) := Qc l_aq_7 lots x
def F_aq (x : denP P_aq) : FO P_aq R_a :=
 (F_aj (x.1.1, ())).bind fun r1 =>
 if (r1.1.1 != (0 : Int)) then
  some ((r1.1.1, ()), ())
 else
  (F_al (x.1.2.1, ())).bind fun r2 =>
  if (!r2.1.1) = false then
   let v3 := ((x.1.2.2.1.length : Nat) : Int)
   let v4 := ((x.1.1.1.length : Nat) : Int)
   if (v3 != v4) then
    some (((1 : Int), ()), ())
   else
    (L_aq_7 ((x.1, ((0 : Int), ())), ((), ()))).bind fun z11 =>
    match z11 with
    | .inl x12 =>
     (F_aa (x12.1.1.2.2.2.2.2.1, (0 : Int), (1000000 : Int), ())).bind fun r13 =>
     if (!r13.1.1) then
      some (((3 : Int), ()), ())
     else
      (F_ap (x12.1.1.1, x12.1.1.2.2.2.2.2.1, ())).bind fun r14 =>
      if (x12.1.1.2.2.2.1 != r14.1.1) = false then
       if (x12.1.1.2.2.2.2.1 != r14.1.2.1) then
        some (((1 : Int), ()), ())
       else
        some (((0 : Int), ()), ())
      else
       some (((1 : Int), ()), ())
    | .inr z11_ =>
     match z11_ with
     | .inl x15 =>
      some ((x15.1.1, ()), ())
     | .inr z11__ =>
      none
  else
   some (((1 : Int), ()), ())
abbrev C_aq : Con := ⟨P_aq, R_a, F_aq, false⟩
abbrev G_aq : Env := [(56, C_aj), (57, C_al), (58, C_ao), (59, C_aa), (60, C_ap)]
theorem g_aq : Qe Tryz.prog G_aq := (Qa s_aj (Qa s_al (Qa s_ao (Qa s_aa (Qa s_ap Qd)))))
abbrev c_aq_7 : Cut := ⟨i_aq_7, o_aq_7, fun x => Qc l_aq_7 lots x⟩
theorem k_aq_7 : Qo Tryz.prog 85 (.loop (nav Tryz.f18 [1, 1, 1, 0, 1, 0, 0])) c_aq_7 :=
  Qf (L := []) hT g_aq (fun _ _ => by kernel_rfl) okP _
theorem r_aq (x) : Qv T G_aq [(7, c_aq_7)] Tryz.f18 C_aq.ps C_aq.rs x = C_aq.F x := by kernel_rfl
theorem s_aq : Qb Tryz.prog 18 C_aq := fnC (L := [(7, c_aq_7)]) hT g_aq Tryz.f18 (okS okP (okS okP (okS okP (okS (okS okP (okB (okU k_aq_7))) okP)))) r_aq
abbrev R_ar : List VK := [.s (.dat Y39)]
def F_ar (x : denP P_am) : FO P_am R_ar :=
 some (((x.1, ((0 : Int), (false, ()))), ()), ())
abbrev C_ar : Con := ⟨P_am, R_ar, F_ar, false⟩
theorem s_ar : Qb Tryz.prog 19 C_ar := fnC (L := []) hT g_a Tryz.f19 okP fun _ => by kernel_rfl
abbrev i_as_6 : Shp := { slots := [(0, .s (.dat Y24)), (1, .s (.dat YI)), (5, .s (.dat YI))], boxes := [], rows := [] }
def l_as_6 (rec : i_as_6.den → Option (denO o_af_2)) (u : i_as_6.den) : Option (denO o_af_2) :=
 let v9 := ((u.1.1.length : Nat) : Int)
 if (ltI u.1.2.2.1 v9) then
  if 0 ≤ u.1.2.2.1 then
   ((u.1.1)[(u.1.2.2.1).toNat]?).bind fun y10 =>
   let v11 := (IntKind.i64.wrap (u.1.2.1 - (1 : Int)))
   (F_aa (y10.1, (-1 : Int), v11, ())).bind fun r12 =>
   if (!r12.1.1) = false then
    if 0 ≤ u.1.2.2.1 then
     ((u.1.1)[(u.1.2.2.1).toNat]?).bind fun y13 =>
     (F_aa (y13.2.1, (0 : Int), (7 : Int), ())).bind fun r14 =>
     if (!r14.1.1) then
      some (.inr (.inl (((3 : Int), ()), ((), ()))))
     else
      if 0 ≤ u.1.2.2.1 then
       ((u.1.1)[(u.1.2.2.1).toNat]?).bind fun y15 =>
       if (ltI y15.1 (0 : Int)) = true then
        if 0 ≤ u.1.2.2.1 then
         ((u.1.1)[(u.1.2.2.1).toNat]?).bind fun y16 =>
         if (y16.2.1 != (0 : Int)) then
          some (.inr (.inl (((1 : Int), ()), ((), ()))))
         else
          let v17 := (IntKind.i64.wrap (u.1.2.2.1 + (1 : Int)))
          rec ((u.1.1, (u.1.2.1, (v17, ()))), ((), ()))
        else none
       else
        let v18 := (IntKind.i64.wrap (u.1.2.2.1 + (1 : Int)))
        rec ((u.1.1, (u.1.2.1, (v18, ()))), ((), ()))
      else none
    else none
   else
    some (.inr (.inl (((3 : Int), ()), ((), ()))))
  else none
 else
  some (.inl ((), ((), ())))
def L_as_6 (x : i_as_6.den) : Option (denO o_af_2) := Qc l_as_6 lots x
def F_as (x : denP P_d) : FO P_d R_a :=
 (F_aa (x.2.1, (1 : Int), (24 : Int), ())).bind fun r1 =>
 if (!r1.1.1) then
  some (((3 : Int), ()), ())
 else
  let v2 := ((x.1.length : Nat) : Int)
  if (v2 != (8 : Int)) then
   some (((1 : Int), ()), ())
  else
   (L_as_6 ((x.1, (x.2.1, ((0 : Int), ()))), ((), ()))).bind fun z19 =>
   match z19 with
   | .inl x20 =>
    some (((0 : Int), ()), ())
   | .inr z19_ =>
    match z19_ with
    | .inl x21 =>
     some ((x21.1.1, ()), ())
    | .inr z19__ =>
     none
abbrev C_as : Con := ⟨P_d, R_a, F_as, false⟩
theorem g_as : Qe Tryz.prog G_ad := (Qa s_aa Qd)
abbrev c_as_6 : Cut := ⟨i_as_6, o_af_2, fun x => Qc l_as_6 lots x⟩
theorem k_as_6 : Qo Tryz.prog 50 (.loop (nav Tryz.f61 [1, 1, 1, 0, 1, 0, 0])) c_as_6 :=
  Qf (L := []) hT g_as (fun _ _ => by kernel_rfl) okP _
theorem r_as (x) : Qv T G_ad [(6, c_as_6)] Tryz.f61 C_as.ps C_as.rs x = C_as.F x := by kernel_rfl
theorem s_as : Qb Tryz.prog 61 C_as := fnC (L := [(6, c_as_6)]) hT g_as Tryz.f61 (okS okP (okS okP (okS okP (okS (okS okP (okB (okU k_as_6))) okP)))) r_as
def F_at (x : denP P_z) : FO P_z R_a :=
 (F_ao (x.1.1, ())).bind fun r1 =>
 if (r1.1.1 != (0 : Int)) then
  some ((r1.1.1, ()), ())
 else
  (F_as (x.1.2.1, (8 : Int), ())).bind fun r2 =>
  if (r2.1.1 != (0 : Int)) then
   some ((r2.1.1, ()), ())
  else
   (F_ak (x.1.2.2.1, ())).bind fun r3 =>
   if (r3.1.1 != (0 : Int)) = false then
    let v4 := ((x.1.2.2.1.length : Nat) : Int)
    if (v4 != (64 : Int)) then
     some (((1 : Int), ()), ())
    else
     some (((0 : Int), ()), ())
   else
    some (((1 : Int), ()), ())
abbrev C_at : Con := ⟨P_z, R_a, F_at, false⟩
abbrev G_at : Env := [(58, C_ao), (61, C_as), (62, C_ak)]
theorem g_at : Qe Tryz.prog G_at := (Qa s_ao (Qa s_as (Qa s_ak Qd)))
theorem s_at : Qb Tryz.prog 20 C_at := fnC (L := []) hT g_at Tryz.f20 okP fun _ => by kernel_rfl
abbrev P_au : List PK := [.ptr Y30, .val YI]
def F_au (x : denP P_au) : FO P_au R_aa :=
 (F_aa (x.2.1, (0 : Int), (200 : Int), ())).bind fun r1 =>
 if r1.1.1 = true then
  let v2 := (IntKind.i64.wrap (x.1.2.2.2.2.2.1 + x.2.1))
  some (((leI v2 (1000000 : Int)), ()), ())
 else
  some ((false, ()), ())
abbrev C_au : Con := ⟨P_au, R_aa, F_au, false⟩
theorem g_au : Qe Tryz.prog G_ad := (Qa s_aa Qd)
theorem s_au : Qb Tryz.prog 22 C_au := fnC (L := []) hT g_au Tryz.f22 okP fun _ => by kernel_rfl
abbrev R_av : List VK := [.g [.own 28 Y28, .own 79 Y78, .own 160 Y76, .own 77 Y76]]
abbrev i_av_3 : Shp := { slots := [(1, .s (.ptr 1 0)), (2, .s (.ptr 2 0)), (3, .s (.ptr 3 0)), (4, .s (.dat YI))], boxes := [(1, [.dat Y22, .dat Y23, .dat Y24, .dat Y24]), (2, [.own 28 Y28, .own 79 Y78, .own 160 Y76, .own 77 Y76]), (3, [.own 28 Y28, .own 79 Y78, .own 160 Y76, .own 77 Y76])], rows := [] }
abbrev o_av_3 : List (Ex × Shp) := [(.exit 0, { slots := [(2, .s (.ptr 2 0)), (3, .s (.ptr 3 0))], boxes := [(2, [.own 28 Y28, .own 79 Y78, .own 160 Y76, .own 77 Y76]), (3, [.own 28 Y28, .own 79 Y78, .own 160 Y76, .own 77 Y76])], rows := [] })]
def l_av_3 (rec : i_av_3.den → Option (denO o_av_3)) (u : i_av_3.den) : Option (denO o_av_3) :=
 let v5 := ((u.2.1.1.1.length : Nat) : Int)
 if (ltI u.1.2.2.2.1 v5) then
  if 0 ≤ u.1.2.2.2.1 then
   ((u.2.1.1.1)[(u.1.2.2.2.1).toNat]?).bind fun y6 =>
   if (([] : List (den YI)).length + y6.length) * 8 ≤ 140737488355328 then
    let v7 := (([] : List (den YI)) ++ y6)
    if (u.2.1.2.2.1.1.length + [v7].length) * 24 ≤ 140737488355328 then
     let v8 := (u.2.1.2.2.1.1 ++ [v7])
     let v9 := (IntKind.i64.wrap (u.1.2.2.2.1 + (1 : Int)))
     rec (((), ((), ((), (v9, ())))), ((u.2.1.1, (u.2.1.2.1, ((v8, (u.2.1.2.2.1.2.1, (u.2.1.2.2.1.2.2.1, (u.2.1.2.2.1.2.2.2.1, ())))), ()))), ()))
    else none
   else none
  else none
 else
  some (.inl (((), ((), ())), ((u.2.1.2.1, (u.2.1.2.2.1, ())), ())))
def L_av_3 (x : i_av_3.den) : Option (denO o_av_3) := Qc l_av_3 lots x
def F_av (x : denP P_t) : FO P_t R_av :=
 if (([] : List (den Y78)).length + x.1.2.1.length) * 40 ≤ 140737488355328 then
  let v1 := (([] : List (den Y78)) ++ x.1.2.1)
  if (([] : List (den Y76)).length + x.1.2.2.1.length) * 16 ≤ 140737488355328 then
   let v2 := (([] : List (den Y76)) ++ x.1.2.2.1)
   if (([] : List (den Y76)).length + x.1.2.2.2.1.length) * 16 ≤ 140737488355328 then
    let v3 := (([] : List (den Y76)) ++ x.1.2.2.2.1)
    (L_av_3 (((), ((), ((), ((0 : Int), ())))), (((x.1.1, (x.1.2.1, (x.1.2.2.1, (x.1.2.2.2.1, ())))), ((([] : List (den Y28)), (([] : List (den Y78)), (([] : List (den Y76)), (([] : List (den Y76)), ())))), ((([] : List (den Y28)), (v1, (v2, (v3, ())))), ()))), ()))).bind fun z10 =>
    match z10 with
    | .inl x11 =>
     some ((x11.2.1.2.1, ()), ())
    | .inr z10_ =>
     none
   else none
  else none
 else none
abbrev C_av : Con := ⟨P_t, R_av, F_av, false⟩
abbrev c_av_3 : Cut := ⟨i_av_3, o_av_3, fun x => Qc l_av_3 lots x⟩
theorem k_av_3 : Qo Tryz.prog 38 (.loop (nav Tryz.f63 [1, 1, 0, 1, 0, 0])) c_av_3 :=
  Qf (L := []) hT g_a (fun _ _ => by kernel_rfl) okP _
theorem r_av (x) : Qv T G_a [(3, c_av_3)] Tryz.f63 C_av.ps C_av.rs x = C_av.F x := by kernel_rfl
theorem s_av : Qb Tryz.prog 63 C_av := fnC (L := [(3, c_av_3)]) hT g_a Tryz.f63 (okS okP (okS okP (okS (okS okP (okB (okU k_av_3))) okP))) r_av
def F_aw (x : denP P_l) : FO P_l R_l :=
 if (([] : List (den YI)).length + x.1.length) * 8 ≤ 140737488355328 then
  let v1 := (([] : List (den YI)) ++ x.1)
  some ((v1, ()), ())
 else none
abbrev C_aw : Con := ⟨P_l, R_l, F_aw, false⟩
theorem s_aw : Qb Tryz.prog 64 C_aw := fnC (L := []) hT g_a Tryz.f64 okP fun _ => by kernel_rfl
def F_ax (x : denP P_u) : FO P_u R_u :=
 if (([] : List (den YI)).length + x.1.1.length) * 8 ≤ 140737488355328 then
  let v1 := (([] : List (den YI)) ++ x.1.1)
  if (([] : List (den YI)).length + x.1.2.2.1.length) * 8 ≤ 140737488355328 then
   let v2 := (([] : List (den YI)) ++ x.1.2.2.1)
   if (([] : List (den YI)).length + x.1.2.2.2.2.2.2.2.1.length) * 8 ≤ 140737488355328 then
    let v3 := (([] : List (den YI)) ++ x.1.2.2.2.2.2.2.2.1)
    if (([] : List (den YI)).length + x.1.2.2.2.2.2.2.2.2.1.length) * 8 ≤ 140737488355328 then
     let v4 := (([] : List (den YI)) ++ x.1.2.2.2.2.2.2.2.2.1)
     some (((v1, (x.1.2.1, (v2, (x.1.2.2.2.1, (x.1.2.2.2.2.1, (x.1.2.2.2.2.2.1, (x.1.2.2.2.2.2.2.1, (v3, (v4, ()))))))))), ()), ())
    else none
   else none
  else none
 else none
abbrev C_ax : Con := ⟨P_u, R_u, F_ax, false⟩
theorem s_ax : Qb Tryz.prog 65 C_ax := fnC (L := []) hT g_a Tryz.f65 okP fun _ => by kernel_rfl
abbrev R_ay : List VK := [.g [.own 28 Y28, .own 79 Y78, .own 160 Y76, .own 77 Y76, .own 2 YI, .own 51 Y32, .dat YI, .dat YI, .dat YI]]
abbrev i_ay_3 : Shp := { slots := [(1, .s (.ptr 1 0)), (2, .s (.ptr 2 0)), (3, .s (.ptr 3 0)), (4, .s (.dat YI))], boxes := [(1, [.dat Y22, .dat Y23, .dat Y24, .dat Y24, .dat Y28, .dat Y29, .dat YI, .dat YI, .dat YI]), (2, [.own 28 Y28, .own 79 Y78, .own 160 Y76, .own 77 Y76, .own 2 YI, .own 51 Y32, .dat YI, .dat YI, .dat YI]), (3, [.own 28 Y28, .own 79 Y78, .own 160 Y76, .own 77 Y76, .own 2 YI, .own 51 Y32, .dat YI, .dat YI, .dat YI])], rows := [] }
abbrev o_ay_3 : List (Ex × Shp) := [(.exit 0, { slots := [(2, .s (.ptr 2 0)), (3, .s (.ptr 3 0))], boxes := [(2, [.own 28 Y28, .own 79 Y78, .own 160 Y76, .own 77 Y76, .own 2 YI, .own 51 Y32, .dat YI, .dat YI, .dat YI]), (3, [.own 28 Y28, .own 79 Y78, .own 160 Y76, .own 77 Y76, .own 2 YI, .own 51 Y32, .dat YI, .dat YI, .dat YI])], rows := [] })]
def l_ay_3 (rec : i_ay_3.den → Option (denO o_ay_3)) (u : i_ay_3.den) : Option (denO o_ay_3) :=
 let v5 := ((u.2.1.1.2.2.2.2.2.1.length : Nat) : Int)
 if (ltI u.1.2.2.2.1 v5) then
  if 0 ≤ u.1.2.2.2.1 then
   ((u.2.1.1.2.2.2.2.2.1)[(u.1.2.2.2.1).toNat]?).bind fun y6 =>
   (F_ax (y6, ())).bind fun r7 =>
   if (u.2.1.2.2.1.2.2.2.2.2.1.length + [r7.1.1].length) * 120 ≤ 140737488355328 then
    let v8 := (u.2.1.2.2.1.2.2.2.2.2.1 ++ [r7.1.1])
    let v9 := (IntKind.i64.wrap (u.1.2.2.2.1 + (1 : Int)))
    rec (((), ((), ((), (v9, ())))), ((u.2.1.1, (u.2.1.2.1, ((u.2.1.2.2.1.1, (u.2.1.2.2.1.2.1, (u.2.1.2.2.1.2.2.1, (u.2.1.2.2.1.2.2.2.1, (u.2.1.2.2.1.2.2.2.2.1, (v8, (u.2.1.2.2.1.2.2.2.2.2.2.1, (u.2.1.2.2.1.2.2.2.2.2.2.2.1, (u.2.1.2.2.1.2.2.2.2.2.2.2.2.1, ()))))))))), ()))), ()))
   else none
  else none
 else
  some (.inl (((), ((), ())), ((u.2.1.2.1, (u.2.1.2.2.1, ())), ())))
def L_ay_3 (x : i_ay_3.den) : Option (denO o_ay_3) := Qc l_ay_3 lots x
def F_ay (x : denP P_w) : FO P_w R_ay :=
 (F_av (x.1.1, ())).bind fun r1 =>
 (F_aw (x.1.2.1, ())).bind fun r2 =>
 (L_ay_3 (((), ((), ((), ((0 : Int), ())))), (((x.1.1.1, (x.1.1.2.1, (x.1.1.2.2.1, (x.1.1.2.2.2.1, (x.1.2.1, (x.1.2.2.1, (x.1.2.2.2.1, (x.1.2.2.2.2.1, (x.1.2.2.2.2.2.1, ()))))))))), ((([] : List (den Y28)), (([] : List (den Y78)), (([] : List (den Y76)), (([] : List (den Y76)), (([] : List (den YI)), (([] : List (den Y32)), ((0 : Int), ((0 : Int), ((0 : Int), ()))))))))), ((r1.1.1.1, (r1.1.1.2.1, (r1.1.1.2.2.1, (r1.1.1.2.2.2.1, (r2.1.1, (([] : List (den Y32)), (x.1.2.2.2.1, (x.1.2.2.2.2.1, (x.1.2.2.2.2.2.1, ()))))))))), ()))), ()))).bind fun z10 =>
 match z10 with
 | .inl x11 =>
  some ((x11.2.1.2.1, ()), ())
 | .inr z10_ =>
  none
abbrev C_ay : Con := ⟨P_w, R_ay, F_ay, false⟩
abbrev G_ay : Env := [(63, C_av), (64, C_aw), (65, C_ax)]
theorem g_ay : Qe Tryz.prog G_ay := (Qa s_av (Qa s_aw (Qa s_ax Qd)))
abbrev c_ay_3 : Cut := ⟨i_ay_3, o_ay_3, fun x => Qc l_ay_3 lots x⟩
theorem k_ay_3 : Qo Tryz.prog 37 (.loop (nav Tryz.f23 [1, 1, 0, 1, 0, 0])) c_ay_3 :=
  Qf (L := []) hT g_ay (fun _ _ => by kernel_rfl) okP _
theorem r_ay (x) : Qv T G_ay [(3, c_ay_3)] Tryz.f23 C_ay.ps C_ay.rs x = C_ay.F x := by kernel_rfl
theorem s_ay : Qb Tryz.prog 23 C_ay := fnC (L := [(3, c_ay_3)]) hT g_ay Tryz.f23 (okS okP (okS okP (okS (okS okP (okB (okU k_ay_3))) okP))) r_ay
def F_az (x : denP P_z) : FO P_z R_z :=
 (F_ax (x.1.1, ())).bind fun r1 =>
 if (([] : List (den Y76)).length + x.1.2.1.length) * 16 ≤ 140737488355328 then
  let v2 := (([] : List (den Y76)) ++ x.1.2.1)
  (F_aw (x.1.2.2.1, ())).bind fun r3 =>
  some (((r1.1.1.1, (r1.1.1.2.1, (r1.1.1.2.2.1, (r1.1.1.2.2.2.1, (r1.1.1.2.2.2.2.1, (r1.1.1.2.2.2.2.2.1, (r1.1.1.2.2.2.2.2.2.1, (r1.1.1.2.2.2.2.2.2.2.1, (r1.1.1.2.2.2.2.2.2.2.2.1, (v2, (r3.1.1, ()))))))))))), ()), ())
 else none
abbrev C_az : Con := ⟨P_z, R_z, F_az, false⟩
abbrev G_az : Env := [(64, C_aw), (65, C_ax)]
theorem g_az : Qe Tryz.prog G_az := (Qa s_aw (Qa s_ax Qd))
theorem s_az : Qb Tryz.prog 24 C_az := fnC (L := []) hT g_az Tryz.f24 okP fun _ => by kernel_rfl
abbrev P_ba : List PK := [.val Y28, .val Y28]
abbrev i_ba_3 : Shp := { slots := [(0, .s (.dat Y28)), (1, .s (.dat Y28)), (5, .s (.own 2 YI)), (6, .s (.dat YI))], boxes := [], rows := [] }
abbrev o_ba_3 : List (Ex × Shp) := [(.exit 0, { slots := [(5, .s (.own 2 YI))], boxes := [], rows := [] })]
def l_ba_3 (rec : i_ba_3.den → Option (denO o_ba_3)) (u : i_ba_3.den) : Option (denO o_ba_3) :=
 let v3 := ((u.1.2.1.length : Nat) : Int)
 if (ltI u.1.2.2.2.1 v3) then
  if 0 ≤ u.1.2.2.2.1 then
   ((u.1.2.1)[(u.1.2.2.2.1).toNat]?).bind fun y4 =>
   let v5 := (IntKind.i64.wrap (y4 * (8 : Int)))
   if 0 ≤ u.1.2.2.2.1 then
    ((u.1.2.1)[(u.1.2.2.2.1).toNat]?).bind fun y6 =>
    let v7 := (IntKind.i64.wrap (y6 + (1 : Int)))
    let v8 := (IntKind.i64.wrap (v7 * (8 : Int)))
    if 0 ≤ v5 ∧ v5 ≤ v8 ∧ v8 ≤ ((u.1.1.length : Nat) : Int) then
     let v9 := ((u.1.1.drop (v5).toNat).take ((v8).toNat - (v5).toNat))
     if (u.1.2.2.1.length + v9.length) * 8 ≤ 140737488355328 then
      let v10 := (u.1.2.2.1 ++ v9)
      let v11 := (IntKind.i64.wrap (u.1.2.2.2.1 + (1 : Int)))
      rec ((u.1.1, (u.1.2.1, (v10, (v11, ())))), ((), ()))
     else none
    else none
   else none
  else none
 else
  some (.inl ((u.1.2.2.1, ()), ((), ())))
def L_ba_3 (x : i_ba_3.den) : Option (denO o_ba_3) := Qc l_ba_3 lots x
def F_ba (x : denP P_ba) : FO P_ba R_l :=
 (L_ba_3 ((x.1, (x.2.1, (([] : List (den YI)), ((0 : Int), ())))), ((), ()))).bind fun z12 =>
 match z12 with
 | .inl x13 =>
  some ((x13.1.1, ()), ())
 | .inr z12_ =>
  none
abbrev C_ba : Con := ⟨P_ba, R_l, F_ba, false⟩
abbrev c_ba_3 : Cut := ⟨i_ba_3, o_ba_3, fun x => Qc l_ba_3 lots x⟩
theorem k_ba_3 : Qo Tryz.prog 30 (.loop (nav Tryz.f27 [1, 1, 0, 1, 0, 0])) c_ba_3 :=
  Qf (L := []) hT g_a (fun _ _ => by kernel_rfl) okP _
theorem r_ba (x) : Qv T G_a [(3, c_ba_3)] Tryz.f27 C_ba.ps C_ba.rs x = C_ba.F x := by kernel_rfl
theorem s_ba : Qb Tryz.prog 27 C_ba := fnC (L := [(3, c_ba_3)]) hT g_a Tryz.f27 (okS okP (okS okP (okS (okS okP (okB (okU k_ba_3))) okP))) r_ba
abbrev P_bb : List PK := [.ptr Y26, .val YI, .val .bool]
abbrev i_bb_3 : Shp := { slots := [(0, .s (.pd Y26)), (1, .s (.dat YI)), (2, .s (.dat .bool)), (7, .s (.own 2 YI)), (8, .s (.dat YI))], boxes := [], rows := [] }
abbrev o_bb_3 : List (Ex × Shp) := [(.exit 0, { slots := [(7, .s (.own 2 YI))], boxes := [], rows := [] })]
def l_bb_3 (rec : i_bb_3.den → Option (denO o_bb_3)) (u : i_bb_3.den) : Option (denO o_bb_3) :=
 let v4 := ((u.1.1.2.1.length : Nat) : Int)
 if (ltI u.1.2.2.2.2.1 v4) then
  if 0 ≤ u.1.2.2.2.2.1 then
   ((u.1.1.2.1)[(u.1.2.2.2.2.1).toNat]?).bind fun y5 =>
   if (y5.1 != u.1.2.1) then
    let v6 := (IntKind.i64.wrap (u.1.2.2.2.2.1 + (1 : Int)))
    rec ((u.1.1, (u.1.2.1, (u.1.2.2.1, (u.1.2.2.2.1, (v6, ()))))), ((), ()))
   else
    if u.1.2.2.1 then
     if 0 ≤ u.1.2.2.2.2.1 then
      ((u.1.1.2.1)[(u.1.2.2.2.2.1).toNat]?).bind fun y7 =>
      if (u.1.2.2.2.1.length + [y7.2.2.1].length) * 8 ≤ 140737488355328 then
       let v8 := (u.1.2.2.2.1 ++ [y7.2.2.1])
       let v9 := (IntKind.i64.wrap (u.1.2.2.2.2.1 + (1 : Int)))
       rec ((u.1.1, (u.1.2.1, (u.1.2.2.1, (v8, (v9, ()))))), ((), ()))
      else none
     else none
    else
     if 0 ≤ u.1.2.2.2.2.1 then
      ((u.1.1.2.1)[(u.1.2.2.2.2.1).toNat]?).bind fun y10 =>
      if (u.1.2.2.2.1.length + [y10.2.2.2.1].length) * 8 ≤ 140737488355328 then
       let v11 := (u.1.2.2.2.1 ++ [y10.2.2.2.1])
       let v12 := (IntKind.i64.wrap (u.1.2.2.2.2.1 + (1 : Int)))
       rec ((u.1.1, (u.1.2.1, (u.1.2.2.1, (v11, (v12, ()))))), ((), ()))
      else none
     else none
  else none
 else
  some (.inl ((u.1.2.2.2.1, ()), ((), ())))
def L_bb_3 (x : i_bb_3.den) : Option (denO o_bb_3) := Qc l_bb_3 lots x
def F_bb (x : denP P_bb) : FO P_bb R_l :=
 (L_bb_3 ((x.1, (x.2.1, (x.2.2.1, (([] : List (den YI)), ((0 : Int), ()))))), ((), ()))).bind fun z13 =>
 match z13 with
 | .inl x14 =>
  some ((x14.1.1, ()), ())
 | .inr z13_ =>
  none
abbrev C_bb : Con := ⟨P_bb, R_l, F_bb, false⟩
abbrev c_bb_3 : Cut := ⟨i_bb_3, o_bb_3, fun x => Qc l_bb_3 lots x⟩
theorem k_bb_3 : Qo Tryz.prog 53 (.loop (nav Tryz.f109 [1, 1, 0, 1, 0, 0])) c_bb_3 :=
  Qf (L := []) hT g_a (fun _ _ => by kernel_rfl) okP _
theorem r_bb (x) : Qv T G_a [(3, c_bb_3)] Tryz.f109 C_bb.ps C_bb.rs x = C_bb.F x := by kernel_rfl
theorem s_bb : Qb Tryz.prog 109 C_bb := fnC (L := [(3, c_bb_3)]) hT g_a Tryz.f109 (okS okP (okS okP (okS (okS okP (okB (okU k_bb_3))) okP))) r_bb
abbrev R_bc : List VK := [.g [.own 2 YI, .dat YI, .own 2 YI, .dat .bool, .dat .bool, .dat .bool, .dat YI, .own 2 YI, .own 2 YI, .own 2 YI, .own 2 YI]]
def F_bc (x : denP P_au) : FO P_au R_bc :=
 if 0 ≤ x.2.1 then
  ((x.1.2.2.1)[(x.2.1).toNat]?).bind fun y1 =>
  (F_ax (y1, ())).bind fun r2 =>
  if 0 ≤ x.2.1 then
   ((x.1.1.1)[(x.2.1).toNat]?).bind fun y3 =>
   (F_ba (x.1.2.1, y3, ())).bind fun r4 =>
   (F_bb (x.1.1, x.2.1, true, ())).bind fun r5 =>
   (F_ba (x.1.2.1, r5.1.1, ())).bind fun r6 =>
   some (((r2.1.1.1, (r2.1.1.2.1, (r2.1.1.2.2.1, (r2.1.1.2.2.2.1, (r2.1.1.2.2.2.2.1, (r2.1.1.2.2.2.2.2.1, (r2.1.1.2.2.2.2.2.2.1, (r2.1.1.2.2.2.2.2.2.2.1, (r2.1.1.2.2.2.2.2.2.2.2.1, (r4.1.1, (r6.1.1, ()))))))))))), ()), ())
  else none
 else none
abbrev C_bc : Con := ⟨P_au, R_bc, F_bc, false⟩
abbrev G_bc : Env := [(27, C_ba), (65, C_ax), (109, C_bb)]
theorem g_bc : Qe Tryz.prog G_bc := (Qa s_ba (Qa s_ax (Qa s_bb Qd)))
theorem s_bc : Qb Tryz.prog 66 C_bc := fnC (L := []) hT g_bc Tryz.f66 okP fun _ => by kernel_rfl
def F_bd (x : denP P_ad) : FO P_ad R_a :=
 (F_aj (x.1, ())).bind fun r1 =>
 if (r1.1.1 != (0 : Int)) then
  some ((r1.1.1, ()), ())
 else
  (F_ad (x.1, x.2.1, ())).bind fun r2 =>
  if (!r2.1.1) then
   some (((4 : Int), ()), ())
  else
   some (((0 : Int), ()), ())
abbrev C_bd : Con := ⟨P_ad, R_a, F_bd, false⟩
abbrev G_bd : Env := [(21, C_ad), (56, C_aj)]
theorem g_bd : Qe Tryz.prog G_bd := (Qa s_ad (Qa s_aj Qd))
theorem s_bd : Qb Tryz.prog 110 C_bd := fnC (L := []) hT g_bd Tryz.f110 okP fun _ => by kernel_rfl
abbrev P_be : List PK := [.val Y26, .val Y35, .val YI]
abbrev R_be : List VK := [.g [.dat YI, .own 2 YI, .dat YI, .own 2 YI, .dat .bool, .dat .bool, .dat .bool, .dat YI, .own 2 YI, .own 2 YI, .own 2 YI, .own 2 YI]]
abbrev i_be_9 : Shp := { slots := [(2, .s (.dat YI)), (3, .s (.ptr 3 0)), (4, .s (.ptr 4 0)), (6, .s (.ptr 6 0)), (9, .s (.own 2 YI)), (10, .s (.dat YI))], boxes := [(3, [.dat Y22, .dat Y23, .dat Y24, .dat Y24]), (4, [.dat Y28, .dat YI, .dat Y28, .dat .bool, .dat .bool, .dat .bool, .dat YI, .dat Y28, .dat Y28, .dat Y24, .dat Y28]), (6, [.dat YI, .own 2 YI, .dat YI, .own 2 YI, .dat .bool, .dat .bool, .dat .bool, .dat YI, .own 2 YI, .own 2 YI, .own 2 YI, .own 2 YI])], rows := [] }
abbrev o_be_9 : List (Ex × Shp) := [(.exit 0, { slots := [(2, .s (.dat YI)), (3, .s (.ptr 3 0)), (4, .s (.ptr 4 0)), (6, .s (.ptr 6 0)), (9, .s (.own 2 YI))], boxes := [(3, [.dat Y22, .dat Y23, .dat Y24, .dat Y24]), (4, [.dat Y28, .dat YI, .dat Y28, .dat .bool, .dat .bool, .dat .bool, .dat YI, .dat Y28, .dat Y28, .dat Y24, .dat Y28]), (6, [.dat YI, .own 2 YI, .dat YI, .own 2 YI, .dat .bool, .dat .bool, .dat .bool, .dat YI, .own 2 YI, .own 2 YI, .own 2 YI, .own 2 YI])], rows := [] })]
def l_be_9 (rec : i_be_9.den → Option (denO o_be_9)) (u : i_be_9.den) : Option (denO o_be_9) :=
 if 0 ≤ u.1.1 then
  ((u.2.1.1.1)[(u.1.1).toNat]?).bind fun y4 =>
  let v5 := ((y4.length : Nat) : Int)
  if (ltI u.1.2.2.2.2.2.1 v5) then
   if (u.1.2.2.2.2.1.length + [u.1.2.2.2.2.2.1].length) * 8 ≤ 140737488355328 then
    let v6 := (u.1.2.2.2.2.1 ++ [u.1.2.2.2.2.2.1])
    let v7 := (IntKind.i64.wrap (u.1.2.2.2.2.2.1 + (1 : Int)))
    rec ((u.1.1, ((), ((), ((), (v6, (v7, ())))))), ((u.2.1.1, (u.2.1.2.1, (u.2.1.2.2.1, ()))), ()))
   else none
  else
   some (.inl ((u.1.1, ((), ((), ((), (u.1.2.2.2.2.1, ()))))), ((u.2.1.1, (u.2.1.2.1, (u.2.1.2.2.1, ()))), ())))
 else none
def L_be_9 (x : i_be_9.den) : Option (denO o_be_9) := Qc l_be_9 lots x
def F_be (x : denP P_be) : FO P_be R_be :=
 (F_bd (x.1, x.2.2.1, ())).bind fun r1 =>
 if (r1.1.1 != (0 : Int)) then
  some (((r1.1.1, (([] : List (den YI)), ((0 : Int), (([] : List (den YI)), (false, (false, (false, ((0 : Int), (([] : List (den YI)), (([] : List (den YI)), (([] : List (den YI)), (([] : List (den YI)), ())))))))))))), ()), ())
 else
  (F_at (x.2.1, ())).bind fun r2 =>
  if (r2.1.1 != (0 : Int)) then
   some (((r2.1.1, (([] : List (den YI)), ((0 : Int), (([] : List (den YI)), (false, (false, (false, ((0 : Int), (([] : List (den YI)), (([] : List (den YI)), (([] : List (den YI)), (([] : List (den YI)), ())))))))))))), ()), ())
  else
   (L_be_9 ((x.2.2.1, ((), ((), ((), (([] : List (den YI)), ((0 : Int), ())))))), (((x.1.1, (x.1.2.1, (x.1.2.2.1, (x.1.2.2.2.1, ())))), ((x.2.1.1.1, (x.2.1.1.2.1, (x.2.1.1.2.2.1, (x.2.1.1.2.2.2.1, (x.2.1.1.2.2.2.2.1, (x.2.1.1.2.2.2.2.2.1, (x.2.1.1.2.2.2.2.2.2.1, (x.2.1.1.2.2.2.2.2.2.2.1, (x.2.1.1.2.2.2.2.2.2.2.2.1, (x.2.1.2.1, (x.2.1.2.2.1, ()))))))))))), (((0 : Int), (([] : List (den YI)), ((0 : Int), (([] : List (den YI)), (false, (false, (false, ((0 : Int), (([] : List (den YI)), (([] : List (den YI)), (([] : List (den YI)), (([] : List (den YI)), ())))))))))))), ()))), ()))).bind fun z8 =>
   match z8 with
   | .inl x9 =>
    (F_ax ((x9.2.1.2.1.1, (x9.2.1.2.1.2.1, (x9.2.1.2.1.2.2.1, (x9.2.1.2.1.2.2.2.1, (x9.2.1.2.1.2.2.2.2.1, (x9.2.1.2.1.2.2.2.2.2.1, (x9.2.1.2.1.2.2.2.2.2.2.1, (x9.2.1.2.1.2.2.2.2.2.2.2.1, (x9.2.1.2.1.2.2.2.2.2.2.2.2.1, ()))))))))), ())).bind fun r10 =>
    (F_ba (x9.2.1.2.1.2.2.2.2.2.2.2.2.2.2.1, x9.1.2.2.2.2.1, ())).bind fun r11 =>
    (F_bb (x9.2.1.1, x9.1.1, false, ())).bind fun r12 =>
    (F_ba (x9.2.1.2.1.2.2.2.2.2.2.2.2.2.2.1, r12.1.1, ())).bind fun r13 =>
    some ((((0 : Int), (r10.1.1.1, (r10.1.1.2.1, (r10.1.1.2.2.1, (r10.1.1.2.2.2.1, (r10.1.1.2.2.2.2.1, (r10.1.1.2.2.2.2.2.1, (r10.1.1.2.2.2.2.2.2.1, (r10.1.1.2.2.2.2.2.2.2.1, (r10.1.1.2.2.2.2.2.2.2.2.1, (r11.1.1, (r13.1.1, ())))))))))))), ()), ())
   | .inr z8_ =>
    none
abbrev C_be : Con := ⟨P_be, R_be, F_be, false⟩
abbrev G_be : Env := [(20, C_at), (27, C_ba), (65, C_ax), (109, C_bb), (110, C_bd)]
theorem g_be : Qe Tryz.prog G_be := (Qa s_at (Qa s_ba (Qa s_ax (Qa s_bb (Qa s_bd Qd)))))
abbrev c_be_9 : Cut := ⟨i_be_9, o_be_9, fun x => Qc l_be_9 lots x⟩
theorem k_be_9 : Qo Tryz.prog 52 (.loop (nav Tryz.f67 [1, 1, 1, 1, 0, 1, 0, 0])) c_be_9 :=
  Qf (L := []) hT g_be (fun _ _ => by kernel_rfl) okP _
theorem r_be (x) : Qv T G_be [(9, c_be_9)] Tryz.f67 C_be.ps C_be.rs x = C_be.F x := by kernel_rfl
theorem s_be : Qb Tryz.prog 67 C_be := fnC (L := [(9, c_be_9)]) hT g_be Tryz.f67 (okS okP (okS okP (okS okP (okS okP (okS (okS okP (okB (okU k_be_9))) okP))))) r_be
abbrev i_bf_4 : Shp := { slots := [(0, .s (.dat Y28)), (1, .s (.dat Y28)), (5, .s (.dat YI))], boxes := [], rows := [] }
def l_bf_4 (rec : i_bf_4.den → Option (denO o_ab_2)) (u : i_bf_4.den) : Option (denO o_ab_2) :=
 let v5 := ((u.1.1.length : Nat) : Int)
 if (ltI u.1.2.2.1 v5) then
  if 0 ≤ u.1.2.2.1 then
   ((u.1.1)[(u.1.2.2.1).toNat]?).bind fun y6 =>
   if 0 ≤ u.1.2.2.1 then
    ((u.1.2.1)[(u.1.2.2.1).toNat]?).bind fun y7 =>
    if (y6 != y7) then
     some (.inr (.inl ((false, ()), ((), ()))))
    else
     let v8 := (IntKind.i64.wrap (u.1.2.2.1 + (1 : Int)))
     rec ((u.1.1, (u.1.2.1, (v8, ()))), ((), ()))
   else none
  else none
 else
  some (.inl ((), ((), ())))
def L_bf_4 (x : i_bf_4.den) : Option (denO o_ab_2) := Qc l_bf_4 lots x
def F_bf (x : denP P_ba) : FO P_ba R_aa :=
 let v1 := ((x.1.length : Nat) : Int)
 let v2 := ((x.2.1.length : Nat) : Int)
 if (v1 != v2) then
  some ((false, ()), ())
 else
  (L_bf_4 ((x.1, (x.2.1, ((0 : Int), ()))), ((), ()))).bind fun z9 =>
  match z9 with
  | .inl x10 =>
   some ((true, ()), ())
  | .inr z9_ =>
   match z9_ with
   | .inl x11 =>
    some ((x11.1.1, ()), ())
   | .inr z9__ =>
    none
abbrev C_bf : Con := ⟨P_ba, R_aa, F_bf, false⟩
abbrev c_bf_4 : Cut := ⟨i_bf_4, o_ab_2, fun x => Qc l_bf_4 lots x⟩
theorem k_bf_4 : Qo Tryz.prog 26 (.loop (nav Tryz.f112 [1, 1, 0, 1, 0, 0])) c_bf_4 :=
  Qf (L := []) hT g_a (fun _ _ => by kernel_rfl) okP _
theorem r_bf (x) : Qv T G_a [(4, c_bf_4)] Tryz.f112 C_bf.ps C_bf.rs x = C_bf.F x := by kernel_rfl
theorem s_bf : Qb Tryz.prog 112 C_bf := fnC (L := [(4, c_bf_4)]) hT g_a Tryz.f112 (okS okP (okS okP (okS (okS okP (okB (okU k_bf_4))) okP))) r_bf
abbrev P_bg : List PK := [.ptr Y32, .ptr Y32]
def F_bg (x : denP P_bg) : FO P_bg R_aa :=
 (F_bf (x.1.1, x.2.1.1, ())).bind fun r1 =>
 if r1.1.1 = true then
  if (x.1.2.1 == x.2.1.2.1) = true then
   (F_bf (x.1.2.2.1, x.2.1.2.2.1, ())).bind fun r2 =>
   if r2.1.1 = true then
    if (x.1.2.2.2.1 == x.2.1.2.2.2.1) = true then
     if (x.1.2.2.2.2.1 == x.2.1.2.2.2.2.1) = true then
      if (x.1.2.2.2.2.2.1 == x.2.1.2.2.2.2.2.1) = true then
       if (x.1.2.2.2.2.2.2.1 == x.2.1.2.2.2.2.2.2.1) = true then
        (F_bf (x.1.2.2.2.2.2.2.2.1, x.2.1.2.2.2.2.2.2.2.1, ())).bind fun r3 =>
        if r3.1.1 = true then
         (F_bf (x.1.2.2.2.2.2.2.2.2.1, x.2.1.2.2.2.2.2.2.2.2.1, ())).bind fun r4 =>
         some ((r4.1.1, ()), ())
        else
         some ((false, ()), ())
       else
        some ((false, ()), ())
      else
       some ((false, ()), ())
     else
      some ((false, ()), ())
    else
     some ((false, ()), ())
   else
    some ((false, ()), ())
  else
   some ((false, ()), ())
 else
  some ((false, ()), ())
abbrev C_bg : Con := ⟨P_bg, R_aa, F_bg, false⟩
abbrev G_bg : Env := [(112, C_bf)]
theorem g_bg : Qe Tryz.prog G_bg := (Qa s_bf Qd)
theorem s_bg : Qb Tryz.prog 111 C_bg := fnC (L := []) hT g_bg Tryz.f111 okP fun _ => by kernel_rfl
abbrev P_bh : List PK := [.val Y97, .val Y97]
def F_bh (x : denP P_bh) : FO P_bh R_aa :=
 (F_bg (x.1.1, x.2.1.1, ())).bind fun r1 =>
 if r1.1.1 = true then
  (F_bf (x.1.2.1, x.2.1.2.1, ())).bind fun r2 =>
  if r2.1.1 = true then
   (F_bf (x.1.2.2.1, x.2.1.2.2.1, ())).bind fun r3 =>
   some ((r3.1.1, ()), ())
  else
   some ((false, ()), ())
 else
  some ((false, ()), ())
abbrev C_bh : Con := ⟨P_bh, R_aa, F_bh, false⟩
abbrev G_bh : Env := [(111, C_bg), (112, C_bf)]
theorem g_bh : Qe Tryz.prog G_bh := (Qa s_bg (Qa s_bf Qd))
theorem s_bh : Qb Tryz.prog 68 C_bh := fnC (L := []) hT g_bh Tryz.f68 okP fun _ => by kernel_rfl
abbrev P_bi : List PK := [.ptr Y30, .ptr Y35, .val YI]
def F_bi (x : denP P_bi) : FO P_bi R_aa :=
 (F_bc (x.1, x.2.2.1, ())).bind fun r1 =>
 (F_be (x.1.1, x.2.1, x.2.2.1, ())).bind fun r2 =>
 (F_bh (((r1.1.1.1, (r1.1.1.2.1, (r1.1.1.2.2.1, (r1.1.1.2.2.2.1, (r1.1.1.2.2.2.2.1, (r1.1.1.2.2.2.2.2.1, (r1.1.1.2.2.2.2.2.2.1, (r1.1.1.2.2.2.2.2.2.2.1, (r1.1.1.2.2.2.2.2.2.2.2.1, ()))))))))), (r1.1.1.2.2.2.2.2.2.2.2.2.1, (r1.1.1.2.2.2.2.2.2.2.2.2.2.1, ()))), ((r2.1.1.2.1, (r2.1.1.2.2.1, (r2.1.1.2.2.2.1, (r2.1.1.2.2.2.2.1, (r2.1.1.2.2.2.2.2.1, (r1.1.1.2.2.2.2.2.1, (r2.1.1.2.2.2.2.2.2.2.1, (r2.1.1.2.2.2.2.2.2.2.2.1, (r2.1.1.2.2.2.2.2.2.2.2.2.1, ()))))))))), (r2.1.1.2.2.2.2.2.2.2.2.2.2.1, (r2.1.1.2.2.2.2.2.2.2.2.2.2.2.1, ()))), ())).bind fun r3 =>
 some ((r3.1.1, ()), ())
abbrev C_bi : Con := ⟨P_bi, R_aa, F_bi, false⟩
abbrev G_bi : Env := [(66, C_bc), (67, C_be), (68, C_bh)]
theorem g_bi : Qe Tryz.prog G_bi := (Qa s_bc (Qa s_be (Qa s_bh Qd)))
theorem s_bi : Qb Tryz.prog 25 C_bi := fnC (L := []) hT g_bi Tryz.f25 okP fun _ => by kernel_rfl
abbrev P_bj : List PK := [.box [.dat Y28, .dat YI, .dat Y28, .dat .bool, .dat .bool, .dat .bool, .dat YI, .dat Y28, .dat Y28, .dat Y24, .own 2 YI] [.dat Y28, .dat YI, .dat Y28, .dat .bool, .dat .bool, .dat .bool, .dat YI, .dat Y28, .dat Y28, .dat Y24, .own 2 YI], .val YI, .val Y28]
abbrev R_bj : List VK := []
abbrev i_bj_1 : Shp := { slots := [(0, .s (.ptr 9000000 0)), (1, .s (.dat YI)), (2, .s (.dat Y28)), (6, .s (.dat YI))], boxes := [(9000000, [.dat Y28, .dat YI, .dat Y28, .dat .bool, .dat .bool, .dat .bool, .dat YI, .dat Y28, .dat Y28, .dat Y24, .own 2 YI])], rows := [] }
abbrev o_bj_1 : List (Ex × Shp) := [(.exit 0, { slots := [], boxes := [(9000000, [.dat Y28, .dat YI, .dat Y28, .dat .bool, .dat .bool, .dat .bool, .dat YI, .dat Y28, .dat Y28, .dat Y24, .own 2 YI])], rows := [] })]
def l_bj_1 (rec : i_bj_1.den → Option (denO o_bj_1)) (u : i_bj_1.den) : Option (denO o_bj_1) :=
 let v3 := ((u.1.2.2.1.length : Nat) : Int)
 if (ltI u.1.2.2.2.1 v3) then
  let v4 := (IntKind.i64.wrap (u.1.2.1 * (8 : Int)))
  let v5 := (IntKind.i64.wrap (v4 + u.1.2.2.2.1))
  if 0 ≤ u.1.2.2.2.1 then
   ((u.1.2.2.1)[(u.1.2.2.2.1).toNat]?).bind fun y6 =>
   if 0 ≤ v5 ∧ v5 < ((u.2.1.1.2.2.2.2.2.2.2.2.2.2.1.length : Nat) : Int) then
    ((u.2.1.1.2.2.2.2.2.2.2.2.2.2.1)[(v5).toNat]?).bind fun y7 =>
    let v8 := (u.2.1.1.2.2.2.2.2.2.2.2.2.2.1.set (v5).toNat y6)
    let v9 := (IntKind.i64.wrap (u.1.2.2.2.1 + (1 : Int)))
    rec (((), (u.1.2.1, (u.1.2.2.1, (v9, ())))), (((u.2.1.1.1, (u.2.1.1.2.1, (u.2.1.1.2.2.1, (u.2.1.1.2.2.2.1, (u.2.1.1.2.2.2.2.1, (u.2.1.1.2.2.2.2.2.1, (u.2.1.1.2.2.2.2.2.2.1, (u.2.1.1.2.2.2.2.2.2.2.1, (u.2.1.1.2.2.2.2.2.2.2.2.1, (u.2.1.1.2.2.2.2.2.2.2.2.2.1, (v8, ()))))))))))), ()), ()))
   else none
  else none
 else
  some (.inl ((), ((u.2.1.1, ()), ())))
def L_bj_1 (x : i_bj_1.den) : Option (denO o_bj_1) := Qc l_bj_1 lots x
def F_bj (x : denP P_bj) : FO P_bj R_bj :=
 (L_bj_1 (((), (x.2.1, (x.2.2.1, ((0 : Int), ())))), ((x.1, ()), ()))).bind fun z10 =>
 match z10 with
 | .inl x11 =>
  some ((), (x11.2.1.1, ()))
 | .inr z10_ =>
  none
abbrev C_bj : Con := ⟨P_bj, R_bj, F_bj, false⟩
abbrev c_bj_1 : Cut := ⟨i_bj_1, o_bj_1, fun x => Qc l_bj_1 lots x⟩
theorem k_bj_1 : Qo Tryz.prog 26 (.loop (nav Tryz.f26 [1, 0, 0])) c_bj_1 :=
  Qf (L := []) hT g_a (fun _ _ => by kernel_rfl) okP _
theorem r_bj (x) : Qv T G_a [(1, c_bj_1)] Tryz.f26 C_bj.ps C_bj.rs x = C_bj.F x := by kernel_rfl
theorem s_bj : Qb Tryz.prog 26 C_bj := fnC (L := [(1, c_bj_1)]) hT g_a Tryz.f26 (okS okP (okB (okU k_bj_1))) r_bj
abbrev P_bk : List PK := [.val Y32, .val Y24, .val Y28]
abbrev R_bk : List VK := [.b [.dat Y24, .own 2 YI, .dat YI, .own 2 YI, .dat YI, .own 2 YI, .dat .bool, .dat .bool, .dat .bool, .dat YI, .dat Y28, .own 2 YI, .dat YI]]
def F_bk (x : denP P_bk) : FO P_bk R_bk :=
 (F_aw (x.2.2.1, ())).bind fun r1 =>
 (F_ax (x.1, ())).bind fun r2 =>
 some (((x.2.1, (r1.1.1, ((-1 : Int), (r2.1.1.1, (r2.1.1.2.1, (r2.1.1.2.2.1, (r2.1.1.2.2.2.1, (r2.1.1.2.2.2.2.1, (r2.1.1.2.2.2.2.2.1, (r2.1.1.2.2.2.2.2.2.1, (r2.1.1.2.2.2.2.2.2.2.1, (r2.1.1.2.2.2.2.2.2.2.2.1, ((-1 : Int), ()))))))))))))), ()), ())
abbrev C_bk : Con := ⟨P_bk, R_bk, F_bk, false⟩
theorem g_bk : Qe Tryz.prog G_az := (Qa s_aw (Qa s_ax Qd))
theorem s_bk : Qb Tryz.prog 69 C_bk :=
  Qqz (L := []) hT g_bk Tryz.f69 (by kernel_rfl) (by kernel_rfl) (by kernel_rfl) okP fun _ => by kernel_rfl
def F_bl (x : denP P_ao) : FO P_ao R_a :=
 ((x.1.2.2.1)[((9 : Int)).toNat]?).bind fun y1 =>
 if (y1 != (0 : Int)) = true then
  ((x.1.2.2.1)[((9 : Int)).toNat]?).bind fun y2 =>
  if (leI y2 x.1.2.2.2.2.2.2.1) then
   if x.1.2.2.2.2.2.1 then
    let v3 := ((x.1.2.2.2.2.2.2.2.1.length : Nat) : Int)
    if (ltI (0 : Int) v3) then
     some (((7 : Int), ()), ())
    else
     some (((3 : Int), ()), ())
   else
    let v4 := ((x.1.2.2.2.2.2.2.2.1.length : Nat) : Int)
    if (ltI (0 : Int) v4) then
     some (((5 : Int), ()), ())
    else
     some (((1 : Int), ()), ())
  else
   if x.1.2.2.2.2.2.1 then
    let v5 := ((x.1.2.2.2.2.2.2.2.1.length : Nat) : Int)
    if (ltI (0 : Int) v5) then
     some (((6 : Int), ()), ())
    else
     some (((2 : Int), ()), ())
   else
    let v6 := ((x.1.2.2.2.2.2.2.2.1.length : Nat) : Int)
    if (ltI (0 : Int) v6) then
     some (((4 : Int), ()), ())
    else
     some (((0 : Int), ()), ())
 else
  if x.1.2.2.2.2.2.1 then
   let v7 := ((x.1.2.2.2.2.2.2.2.1.length : Nat) : Int)
   if (ltI (0 : Int) v7) then
    some (((6 : Int), ()), ())
   else
    some (((2 : Int), ()), ())
  else
   let v8 := ((x.1.2.2.2.2.2.2.2.1.length : Nat) : Int)
   if (ltI (0 : Int) v8) then
    some (((4 : Int), ()), ())
   else
    some (((0 : Int), ()), ())
abbrev C_bl : Con := ⟨P_ao, R_a, F_bl, false⟩
theorem s_bl : Qb Tryz.prog 115 C_bl := fnC (L := []) hT g_a Tryz.f115 okP fun _ => by kernel_rfl
abbrev i_bm_5 : Shp := { slots := [(3, .s (.dat YI)), (4, .s (.dat YI))], boxes := [], rows := [] }
def l_bm_5 (rec : i_bm_5.den → Option (denO o_ah_4)) (u : i_bm_5.den) : Option (denO o_ah_4) :=
 if (ltI u.1.2.1 (3 : Int)) then
  let v6 := (IntKind.u64.wrap u.1.2.1)
  if v6 < 0 then none else
  let v7 := ((u.1.1).fdiv (2 ^ (min (v6).toNat 64)))
  let v8 := (iand .i64 v7 (1 : Int))
  if (v8 == (1 : Int)) then
   some (.inr (.inl ((u.1.2.1, ()), ((), ()))))
  else
   let v9 := (IntKind.i64.wrap (u.1.2.1 + (1 : Int)))
   rec ((u.1.1, (v9, ())), ((), ()))
 else
  some (.inl ((), ((), ())))
def L_bm_5 (x : i_bm_5.den) : Option (denO o_ah_4) := Qc l_bm_5 lots x
def F_bm (x : denP P_ao) : FO P_ao R_a :=
 (F_bl (x.1, ())).bind fun r1 =>
 ((x.1.2.2.1)[((7 : Int)).toNat]?).bind fun y2 =>
 let v3 := (iand .i64 r1.1.1 y2)
 ((x.1.2.2.1)[((0 : Int)).toNat]?).bind fun y4 =>
 let v5 := ((y4).tmod (2 : Int))
 if (v5 == (0 : Int)) then
  some (((-1 : Int), ()), ())
 else
  (L_bm_5 ((v3, ((0 : Int), ())), ((), ()))).bind fun z10 =>
  match z10 with
  | .inl x11 =>
   some (((-1 : Int), ()), ())
  | .inr z10_ =>
   match z10_ with
   | .inl x12 =>
    some ((x12.1.1, ()), ())
   | .inr z10__ =>
    none
abbrev C_bm : Con := ⟨P_ao, R_a, F_bm, false⟩
abbrev G_bm : Env := [(115, C_bl)]
theorem g_bm : Qe Tryz.prog G_bm := (Qa s_bl Qd)
abbrev c_bm_5 : Cut := ⟨i_bm_5, o_ah_4, fun x => Qc l_bm_5 lots x⟩
theorem k_bm_5 : Qo Tryz.prog 33 (.loop (nav Tryz.f113 [1, 1, 1, 0, 1, 0, 0])) c_bm_5 :=
  Qf (L := []) hT g_bm (fun _ _ => by kernel_rfl) okP _
theorem r_bm (x) : Qv T G_bm [(5, c_bm_5)] Tryz.f113 C_bm.ps C_bm.rs x = C_bm.F x := by kernel_rfl
theorem s_bm : Qb Tryz.prog 113 C_bm := fnC (L := [(5, c_bm_5)]) hT g_bm Tryz.f113 (okS okP (okS okP (okS okP (okS (okS okP (okB (okU k_bm_5))) okP)))) r_bm
abbrev P_bn : List PK := [.box [.own 2 YI, .dat YI, .own 2 YI, .dat .bool, .dat .bool, .dat .bool, .dat YI, .dat Y28, .own 2 YI] [.own 2 YI, .dat YI, .own 2 YI, .dat .bool, .dat .bool, .dat .bool, .dat YI, .dat Y28, .own 2 YI], .val YI, .val YI]
def F_bn (x : denP P_bn) : FO P_bn R_bj :=
 if 0 ≤ (2 : Int) ∧ (2 : Int) < ((x.1.2.2.1.length : Nat) : Int) then
  ((x.1.2.2.1)[((2 : Int)).toNat]?).bind fun y1 =>
  let v2 := (x.1.2.2.1.set ((2 : Int)).toNat x.1.2.1)
  if 0 ≤ (3 : Int) ∧ (3 : Int) < ((v2.length : Nat) : Int) then
   ((v2)[((3 : Int)).toNat]?).bind fun y3 =>
   let v4 := (v2.set ((3 : Int)).toNat x.2.1)
   if 0 ≤ (4 : Int) ∧ (4 : Int) < ((v4.length : Nat) : Int) then
    ((v4)[((4 : Int)).toNat]?).bind fun y5 =>
    let v6 := (v4.set ((4 : Int)).toNat x.2.2.1)
    if 0 ≤ (0 : Int) ∧ (0 : Int) < ((v6.length : Nat) : Int) then
     ((v6)[((0 : Int)).toNat]?).bind fun y7 =>
     let v8 := ((y7).tmod (2 : Int))
     let v9 := (IntKind.i64.wrap (v8 * (2 : Int)))
     if 0 ≤ (0 : Int) ∧ (0 : Int) < ((v6.length : Nat) : Int) then
      ((v6)[((0 : Int)).toNat]?).bind fun y10 =>
      let v11 := (v6.set ((0 : Int)).toNat v9)
      if 0 ≤ (1 : Int) ∧ (1 : Int) < ((v11.length : Nat) : Int) then
       ((v11)[((1 : Int)).toNat]?).bind fun y12 =>
       some ((), ((x.1.1, (y12, (v11, (x.1.2.2.2.1, (false, (x.1.2.2.2.2.2.1, (x.1.2.2.2.2.2.2.1, (x.1.2.2.2.2.2.2.2.1, (x.1.2.2.2.2.2.2.2.2.1, ()))))))))), ()))
      else none
     else none
    else none
   else none
  else none
 else none
abbrev C_bn : Con := ⟨P_bn, R_bj, F_bn, false⟩
theorem s_bn : Qb Tryz.prog 150 C_bn := fnC (L := []) hT g_a Tryz.f150 okP fun _ => by kernel_rfl
abbrev P_bo : List PK := [.box [.dat Y24, .own 2 YI, .dat YI, .own 2 YI, .dat YI, .own 2 YI, .dat .bool, .dat .bool, .dat .bool, .dat YI, .dat Y28, .own 2 YI, .dat YI] [.dat Y24, .own 2 YI, .dat YI, .own 2 YI, .dat YI, .own 2 YI, .dat .bool, .dat .bool, .dat .bool, .dat YI, .dat Y28, .own 2 YI, .dat YI], .val YI, .val YI]
def F_bo (x : denP P_bo) : FO P_bo R_bj :=
 (F_bn ((x.1.2.2.2.1, (x.1.2.2.2.2.1, (x.1.2.2.2.2.2.1, (x.1.2.2.2.2.2.2.1, (x.1.2.2.2.2.2.2.2.1, (x.1.2.2.2.2.2.2.2.2.1, (x.1.2.2.2.2.2.2.2.2.2.1, (x.1.2.2.2.2.2.2.2.2.2.2.1, (x.1.2.2.2.2.2.2.2.2.2.2.2.1, ()))))))))), x.2.1, x.2.2.1, ())).bind fun r1 =>
 some ((), ((x.1.1, (x.1.2.1, (x.1.2.2.1, (r1.2.1.1, (r1.2.1.2.1, (r1.2.1.2.2.1, (r1.2.1.2.2.2.1, (r1.2.1.2.2.2.2.1, (r1.2.1.2.2.2.2.2.1, (r1.2.1.2.2.2.2.2.2.1, (r1.2.1.2.2.2.2.2.2.2.1, (r1.2.1.2.2.2.2.2.2.2.2.1, (x.2.1, ()))))))))))))), ()))
abbrev C_bo : Con := ⟨P_bo, R_bj, F_bo, false⟩
abbrev G_bo : Env := [(150, C_bn)]
theorem g_bo : Qe Tryz.prog G_bo := (Qa s_bn Qd)
theorem s_bo : Qb Tryz.prog 114 C_bo := fnC (L := []) hT g_bo Tryz.f114 okP fun _ => by kernel_rfl
abbrev P_bp : List PK := [.val Y24, .val YI, .val YI]
def F_bp (x : denP P_bp) : FO P_bp R_a :=
 (F_aa (x.2.1, (0 : Int), (63 : Int), ())).bind fun r1 =>
 if (!r1.1.1) then
  some (((-1 : Int), ()), ())
 else
  let v2 := (IntKind.i64.wrap ((x.2.1).tdiv (8 : Int)))
  if 0 ≤ v2 then
   ((x.1)[(v2).toNat]?).bind fun y3 =>
   if (ltI y3.1 (0 : Int)) = false then
    let v4 := (iand .i64 y3.2.1 x.2.2.1)
    if (v4 == (0 : Int)) then
     some (((-1 : Int), ()), ())
    else
     let v5 := (IntKind.i64.wrap (y3.1 * (8 : Int)))
     let v6 := ((x.2.1).tmod (8 : Int))
     let v7 := (IntKind.i64.wrap (v5 + v6))
     some ((v7, ()), ())
   else
    some (((-1 : Int), ()), ())
  else none
abbrev C_bp : Con := ⟨P_bp, R_a, F_bp, false⟩
theorem g_bp : Qe Tryz.prog G_ad := (Qa s_aa Qd)
theorem s_bp : Qb Tryz.prog 152 C_bp := fnC (L := []) hT g_bp Tryz.f152 okP fun _ => by kernel_rfl
abbrev P_bq : List PK := []
def F_bq (x : denP P_bq) : FO P_bq R_p :=
 some ((((-1 : Int), ((0 : Int), ())), ()), ())
abbrev C_bq : Con := ⟨P_bq, R_p, F_bq, false⟩
theorem s_bq : Qb Tryz.prog 120 C_bq := fnC (L := []) hT g_a Tryz.f120 okP fun _ => by kernel_rfl
def F_br (x : denP P_am) : FO P_am R_p :=
 let v1 := (IntKind.i64.wrap ((x.1).tdiv (8 : Int)))
 let v2 := ((x.1).tmod (8 : Int))
 if (v2 == (0 : Int)) = false then
  if (leI (8 : Int) v1) then
   (F_bq ()).bind fun r3 =>
   some ((r3.1.1, ()), ())
  else
   some (((v1, (v2, ())), ()), ())
 else
  (F_bq ()).bind fun r4 =>
  some ((r4.1.1, ()), ())
abbrev C_br : Con := ⟨P_am, R_p, F_br, false⟩
abbrev G_br : Env := [(120, C_bq)]
theorem g_br : Qe Tryz.prog G_br := (Qa s_bq Qd)
theorem s_br : Qb Tryz.prog 212 C_br := fnC (L := []) hT g_br Tryz.f212 okP fun _ => by kernel_rfl
end Go.Proofs.YtopmpmbdkieenaaGreatDoor
