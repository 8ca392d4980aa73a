/- The functions of the laws, each as a plain function of data (F), and that the program's text does what F says. Printed by a program (wip/tools/gen.py). -/
import Derived.Test.YtmoninjbahccoaaGreatDoorGt
namespace Go.Proofs.YtmoninjbahccoaaGreatDoor
open Go Go.RowKit S Go.Proofs
set_option maxRecDepth 100000
set_option linter.unusedVariables false
abbrev P_a : List PK := [.val Y22]
abbrev R_a : List VK := [.s (.dat .bool)]
def F_a (x : denP P_a) : FO P_a R_a :=
 let v1 := ((x.1.length : Nat) : Int)
 some (((ltI (1048576 : Int) v1), ()), ())
abbrev C_a : Con := ⟨P_a, R_a, F_a, false⟩
abbrev G_a : Env := []
theorem g_a : Qh Tryz.prog G_a := Qd
theorem r_a (x) : QL T G_a [] Tryz.f6 C_a.ps C_a.rs x = C_a.F x := by kernel_rfl
theorem s_a : Qb Tryz.prog 6 C_a := fnC (L := []) hT g_a Tryz.f6 okP r_a
abbrev R_b : List VK := [.s (.bx Y137)]
def F_b (x : denP P_a) : FO P_a R_b := some (((x.1, (0 : Int), ()), ()), ())
abbrev C_b : Con := ⟨P_a, R_b, F_b, false⟩
theorem w_b (A : Option Addr) (n cap : Nat) (w : World) : Calls Tryz.prog 51 #[.slice A n cap] w fun e w' => e = .returned (.pointer (some ⟨w.heap.size, 0, none⟩)) ∧ w' = w.alloc (.cells #[.slice A n cap, .int .i64 0] 138) := by
  go_enter Tryz.func51, Tryz.ntmps51
  go_wp2
  go_ret
  exact ⟨rfl, rfl⟩
theorem s_b : Qb Tryz.prog 51 C_b := (QqQ w_b).ok (Qgt Tryz.func51 (by decide +kernel) (by kernel_rfl))
abbrev P_c : List PK := [.box [.dat Y22, .dat YI] [.dat Y22, .dat YI], .val YI]
abbrev R_c : List VK := [.s (.dat YI)]
def F_c (x : denP P_c) : FO P_c R_c :=
 let v1 := (IntKind.i64.wrap (x.1.2.1 + (1 : Int)))
 if (ltI x.2.1 (1 : Int)) then
  some (((0 : Int), ()), ((x.1.1, (v1, ())), ()))
 else
  let v2 := (IntKind.i64.wrap (v1 - (1 : Int)))
  let v3 := ((x.1.1.length : Nat) : Int)
  if (v3 == (0 : Int)) then
   let v4 := (IntKind.i64.wrap (v2 * (7 : Int)))
   if x.2.1 = 0 then none else
   let v5 := ((v4).tmod x.2.1)
   some ((v5, ()), ((x.1.1, (v1, ())), ()))
  else
   if v3 = 0 then none else
   let v6 := ((v2).tmod v3)
   if 0 ≤ v6 then
    ((x.1.1)[(v6).toNat]?).bind fun y7 =>
    let v8 := (IntKind.i64.wrap y7)
    if v3 = 0 then none else
    let v9 := (IntKind.i64.wrap ((v2).tdiv v3))
    let v10 := (IntKind.i64.wrap (v9 * (37 : Int)))
    let v11 := (IntKind.i64.wrap (v8 + v10))
    if (ltI (200 : Int) x.2.1) then
     let v12 := (IntKind.i64.wrap (v11 * (251 : Int)))
     let v13 := (IntKind.i64.wrap (v2 + (1 : Int)))
     if v3 = 0 then none else
     let v14 := ((v13).tmod v3)
     if 0 ≤ v14 then
      ((x.1.1)[(v14).toNat]?).bind fun y15 =>
      let v16 := (IntKind.i64.wrap y15)
      let v17 := (IntKind.i64.wrap (v16 * (13 : Int)))
      let v18 := (IntKind.i64.wrap (v12 + v17))
      let v19 := (IntKind.i64.wrap (v18 + v2))
      if x.2.1 = 0 then none else
      let v20 := ((v19).tmod x.2.1)
      some ((v20, ()), ((x.1.1, (v1, ())), ()))
     else none
    else
     if x.2.1 = 0 then none else
     let v21 := ((v11).tmod x.2.1)
     some ((v21, ()), ((x.1.1, (v1, ())), ()))
   else none
abbrev C_c : Con := ⟨P_c, R_c, F_c, false⟩
theorem s_c : Qb Tryz.prog 53 C_c := fnC (L := []) hT g_a Tryz.f53 okP fun _ => by kernel_rfl
abbrev P_d : List PK := [.box [.dat Y22, .dat YI] [.dat Y22, .dat YI], .val Y32]
def F_d (x : denP P_d) : FO P_d R_c :=
 let v1 := ((x.2.1.length : Nat) : Int)
 (F_c (x.1, v1, ())).bind fun r2 =>
 if 0 ≤ r2.1.1 then
  ((x.2.1)[(r2.1.1).toNat]?).bind fun y3 =>
  some ((y3, ()), (r2.2.1, ()))
 else none
abbrev C_d : Con := ⟨P_d, R_c, F_d, false⟩
abbrev G_d : Env := [(53, C_c)]
theorem g_d : Qh Tryz.prog G_d := (Qa s_c Qd)
theorem s_d : Qb Tryz.prog 86 C_d := fnC (L := []) hT g_d Tryz.f86 okP fun _ => by kernel_rfl
abbrev P_e : List PK := [.val YI, .val YI, .val YI]
def F_e (x : denP P_e) : FO P_e R_a :=
 if (leI x.2.1 x.1) = true then
  some (((leI x.1 x.2.2.1), ()), ())
 else
  some ((false, ()), ())
abbrev C_e : Con := ⟨P_e, R_a, F_e, false⟩
theorem s_e : Qb Tryz.prog 111 C_e := fnC (L := []) hT g_a Tryz.f111 okP fun _ => by kernel_rfl
abbrev P_f : List PK := [.val Y32, .val YI]
abbrev i_f_2 : Shp := { slots := [(0, .s (.dat Y32)), (1, .s (.dat YI)), (5, .s (.dat YI))], boxes := [], rows := [] }
abbrev o_f_2 : List (Ex × Shp) := [(.exit 0, { slots := [], boxes := [], rows := [] }), (.ret, { slots := [(4, .s (.dat .bool))], boxes := [], rows := [] })]
def l_f_2 (rec : i_f_2.den → Option (denO o_f_2)) (u : i_f_2.den) : Option (denO o_f_2) :=
 let v2 := ((u.1.1.length : Nat) : Int)
 if (ltI u.1.2.2.1 v2) then
  if 0 ≤ u.1.2.2.1 then
   ((u.1.1)[(u.1.2.2.1).toNat]?).bind fun y3 =>
   if (y3 == u.1.2.1) then
    some (.inr (.inl ((true, ()), ((), ()))))
   else
    let v4 := (IntKind.i64.wrap (u.1.2.2.1 + (1 : Int)))
    rec ((u.1.1, (u.1.2.1, (v4, ()))), ((), ()))
  else none
 else
  some (.inl ((), ((), ())))
def L_f_2 (x : i_f_2.den) : Option (denO o_f_2) := Qc l_f_2 lots x
def F_f (x : denP P_f) : FO P_f R_a :=
 (L_f_2 ((x.1, (x.2.1, ((0 : Int), ()))), ((), ()))).bind fun z5 =>
 match z5 with
 | .inl x6 =>
  some ((false, ()), ())
 | .inr z5_ =>
  match z5_ with
  | .inl x7 =>
   some ((x7.1.1, ()), ())
  | .inr z5__ =>
   none
abbrev C_f : Con := ⟨P_f, R_a, F_f, false⟩
abbrev c_f_2 : Cut := ⟨i_f_2, o_f_2, fun x => Qc l_f_2 lots x⟩
theorem k_f_2 : Qz Tryz.prog 18 (.loop (nav Tryz.f112 [1, 0, 1, 0, 0])) c_f_2 :=
  Qj (L := []) hT g_a (fun _ _ => by kernel_rfl) okP _
theorem r_f (x) : QL T G_a [(2, c_f_2)] Tryz.f112 C_f.ps C_f.rs x = C_f.F x := by kernel_rfl
theorem s_f : Qb Tryz.prog 112 C_f := fnC (L := [(2, c_f_2)]) hT g_a Tryz.f112 (okS okP (okS (okS okP (okB (okU k_f_2))) okP)) r_f
abbrev P_g : List PK := [.ptr Y28]
abbrev i_g_18 : Shp := { slots := [(0, .s (.pd Y28)), (5, .s (.own 2 YI)), (6, .s (.dat YI)), (7, .s (.dat YI))], boxes := [], rows := [] }
abbrev o_g_18 : List (Ex × Shp) := [(.exit 6, { slots := [(0, .s (.pd Y28)), (5, .s (.own 2 YI)), (6, .s (.dat YI))], boxes := [], rows := [] }), (.ret, { slots := [(2, .s (.dat YI))], boxes := [], rows := [] })]
def l_g_18 (rec : i_g_18.den → Option (denO o_g_18)) (u : i_g_18.den) : Option (denO o_g_18) :=
 if 0 ≤ u.1.2.2.1 then
  ((u.1.1.1)[(u.1.2.2.1).toNat]?).bind fun y49 =>
  let v50 := ((y49.length : Nat) : Int)
  if (ltI u.1.2.2.2.1 v50) then
   if 0 ≤ u.1.2.2.1 then
    ((u.1.1.1)[(u.1.2.2.1).toNat]?).bind fun y51 =>
    if 0 ≤ u.1.2.2.2.1 then
     ((y51)[(u.1.2.2.2.1).toNat]?).bind fun y52 =>
     (F_f (u.1.2.1, y52, ())).bind fun r53 =>
     if r53.1.1 then
      some (.inr (.inl (((6 : Int), ()), ((), ()))))
     else
      if 0 ≤ u.1.2.2.1 then
       ((u.1.1.1)[(u.1.2.2.1).toNat]?).bind fun y54 =>
       if 0 ≤ u.1.2.2.2.1 then
        ((y54)[(u.1.2.2.2.1).toNat]?).bind fun y55 =>
        if (u.1.2.1.length + [y55].length) * 8 ≤ 140737488355328 then
         let v56 := (u.1.2.1 ++ [y55])
         let v57 := (IntKind.i64.wrap (u.1.2.2.2.1 + (1 : Int)))
         rec ((u.1.1, (v56, (u.1.2.2.1, (v57, ())))), ((), ()))
        else none
       else none
      else none
    else none
   else none
  else
   some (.inl ((u.1.1, (u.1.2.1, (u.1.2.2.1, ()))), ((), ())))
 else none
def L_g_18 (x : i_g_18.den) : Option (denO o_g_18) := Qc l_g_18 lots x
abbrev i_g_9 : Shp := { slots := [(0, .s (.pd Y28)), (3, .s (.dat YI)), (4, .s (.dat YI)), (41, .s (.pd Y28)), (42, .s (.pd Y28)), (43, .s (.pd Y24)), (44, .s (.dat Y24)), (45, .s (.dat YI)), (46, .s (.pd Y32)), (47, .s (.dat Y32)), (48, .s (.dat YI)), (49, .s (.dat .bool))], boxes := [], rows := [] }
abbrev o_g_9 : List (Ex × Shp) := [(.exit 2, { slots := [(0, .s (.pd Y28)), (3, .s (.dat YI)), (41, .s (.pd Y28)), (42, .s (.pd Y28)), (43, .s (.pd Y24)), (44, .s (.dat Y24)), (45, .s (.dat YI)), (46, .s (.pd Y32)), (47, .s (.dat Y32)), (48, .s (.dat YI)), (49, .s (.dat .bool))], boxes := [], rows := [] }), (.ret, { slots := [(2, .s (.dat YI))], boxes := [], rows := [] })]
def l_g_9 (rec : i_g_9.den → Option (denO o_g_9)) (u : i_g_9.den) : Option (denO o_g_9) :=
 if 0 ≤ u.1.2.1 then
  ((u.1.1.1)[(u.1.2.1).toNat]?).bind fun y21 =>
  let v22 := ((y21.length : Nat) : Int)
  if (ltI u.1.2.2.1 v22) then
   if 0 ≤ u.1.2.1 then
    ((u.1.1.1)[(u.1.2.1).toNat]?).bind fun y23 =>
    if 0 ≤ u.1.2.2.1 then
     ((y23)[(u.1.2.2.1).toNat]?).bind fun y24 =>
     (F_e (y24, (0 : Int), (23 : Int), ())).bind fun r25 =>
     if (!r25.1.1) then
      some (.inr (.inl (((3 : Int), ()), ((), ()))))
     else
      let v26 := (IntKind.i64.wrap (u.1.2.2.1 + (1 : Int)))
      rec ((u.1.1, (u.1.2.1, (v26, (u.1.2.2.2.1, (u.1.2.2.2.2.1, (u.1.2.2.2.2.2.1, (u.1.2.2.2.2.2.2.1, (u.1.2.2.2.2.2.2.2.1, (u.1.2.2.2.2.2.2.2.2.1, (u.1.2.2.2.2.2.2.2.2.2.1, (u.1.2.2.2.2.2.2.2.2.2.2.1, (u.1.2.2.2.2.2.2.2.2.2.2.2.1, ())))))))))))), ((), ()))
    else none
   else none
  else
   some (.inl ((u.1.1, (u.1.2.1, (u.1.2.2.2.1, (u.1.2.2.2.2.1, (u.1.2.2.2.2.2.1, (u.1.2.2.2.2.2.2.1, (u.1.2.2.2.2.2.2.2.1, (u.1.2.2.2.2.2.2.2.2.1, (u.1.2.2.2.2.2.2.2.2.2.1, (u.1.2.2.2.2.2.2.2.2.2.2.1, (u.1.2.2.2.2.2.2.2.2.2.2.2.1, ()))))))))))), ((), ())))
 else none
def L_g_9 (x : i_g_9.den) : Option (denO o_g_9) := Qc l_g_9 lots x
abbrev i_g_15 : Shp := { slots := [(0, .s (.pd Y28)), (5, .s (.own 2 YI)), (6, .s (.dat YI))], boxes := [], rows := [] }
abbrev o_g_15 : List (Ex × Shp) := [(.exit 4, { slots := [], boxes := [], rows := [] }), (.ret, { slots := [(2, .s (.dat YI))], boxes := [], rows := [] })]
def l_g_15 (rec : i_g_15.den → Option (denO o_g_15)) (u : i_g_15.den) : Option (denO o_g_15) :=
 let v42 := ((u.1.1.1.length : Nat) : Int)
 if (ltI u.1.2.2.1 v42) then
  (L_g_18 ((u.1.1, (u.1.2.1, (u.1.2.2.1, ((0 : Int), ())))), ((), ()))).bind fun z58 =>
  match z58 with
  | .inl x59 =>
   let v60 := (IntKind.i64.wrap (x59.1.2.2.1 + (1 : Int)))
   rec ((x59.1.1, (x59.1.2.1, (v60, ()))), ((), ()))
  | .inr z58_ =>
   match z58_ with
   | .inl x61 =>
    some (.inr (.inl ((x61.1.1, ()), ((), ()))))
   | .inr z58__ =>
    none
 else
  some (.inl ((), ((), ())))
def L_g_15 (x : i_g_15.den) : Option (denO o_g_15) := Qc l_g_15 lots x
abbrev i_g_4 : Shp := { slots := [(0, .s (.pd Y28)), (3, .s (.dat YI))], boxes := [], rows := [] }
abbrev o_g_4 : List (Ex × Shp) := [(.exit 0, { slots := [(0, .s (.pd Y28))], boxes := [], rows := [] }), (.ret, { slots := [(2, .s (.dat YI))], boxes := [], rows := [] })]
def l_g_4 (rec : i_g_4.den → Option (denO o_g_4)) (u : i_g_4.den) : Option (denO o_g_4) :=
 let v12 := ((u.1.1.1.length : Nat) : Int)
 if (ltI u.1.2.1 v12) then
  if 0 ≤ u.1.2.1 then
   ((u.1.1.1)[(u.1.2.1).toNat]?).bind fun y13 =>
   let v14 := ((y13.length : Nat) : Int)
   if (ltI v14 (1 : Int)) = false then
    if 0 ≤ u.1.2.1 then
     ((u.1.1.1)[(u.1.2.1).toNat]?).bind fun y15 =>
     let v16 := ((y15.length : Nat) : Int)
     if (ltI (5 : Int) v16) then
      some (.inr (.inl (((2 : Int), ()), ((), ()))))
     else
      (L_g_9 ((u.1.1, (u.1.2.1, ((0 : Int), (u.1.1, (u.1.1, (u.1.1.1, (u.1.1.1, (u.1.2.1, (y15, (y15, (v16, ((ltI (5 : Int) v16), ())))))))))))), ((), ()))).bind fun z27 =>
      match z27 with
      | .inl x28 =>
       let v29 := (IntKind.i64.wrap (x28.1.2.1 + (1 : Int)))
       rec ((x28.1.1, (v29, ())), ((), ()))
      | .inr z27_ =>
       match z27_ with
       | .inl x30 =>
        some (.inr (.inl ((x30.1.1, ()), ((), ()))))
       | .inr z27__ =>
        none
    else none
   else
    some (.inr (.inl (((2 : Int), ()), ((), ()))))
  else none
 else
  some (.inl ((u.1.1, ()), ((), ())))
def L_g_4 (x : i_g_4.den) : Option (denO o_g_4) := Qc l_g_4 lots x
def F_g (x : denP P_g) : FO P_g R_c :=
 let v1 := ((x.1.1.length : Nat) : Int)
 if (ltI v1 (1 : Int)) = false then
  let v2 := ((x.1.1.length : Nat) : Int)
  if (ltI (3 : Int) v2) then
   some (((2 : Int), ()), ())
  else
   (L_g_4 ((x.1, ((0 : Int), ())), ((), ()))).bind fun z31 =>
   match z31 with
   | .inl x32 =>
    (L_g_15 ((x32.1.1, (([] : List (den YI)), ((0 : Int), ()))), ((), ()))).bind fun z62 =>
    match z62 with
    | .inl x63 =>
     some (((0 : Int), ()), ())
    | .inr z62_ =>
     match z62_ with
     | .inl x64 =>
      some ((x64.1.1, ()), ())
     | .inr z62__ =>
      none
   | .inr z31_ =>
    match z31_ with
    | .inl x65 =>
     some ((x65.1.1, ()), ())
    | .inr z31__ =>
     none
 else
  some (((2 : Int), ()), ())
abbrev C_g : Con := ⟨P_g, R_c, F_g, false⟩
abbrev G_g : Env := [(111, C_e), (112, C_f)]
theorem g_g : Qh Tryz.prog G_g := (Qa s_e (Qa s_f Qd))
abbrev c_g_18 : Cut := ⟨i_g_18, o_g_18, fun x => Qc l_g_18 lots x⟩
theorem k_g_18 : Qz Tryz.prog 122 (.loop (nav Tryz.f87 [1, 1, 1, 1, 0, 1, 0, 0, 1, 0, 0, 1, 0, 0])) c_g_18 :=
  Qj (L := []) hT g_g (fun _ _ => by kernel_rfl) okP _
abbrev c_g_9 : Cut := ⟨i_g_9, o_g_9, fun x => Qc l_g_9 lots x⟩
theorem k_g_9 : Qz Tryz.prog 122 (.loop (nav Tryz.f87 [1, 1, 0, 1, 0, 0, 1, 0, 0, 1, 1, 0, 0])) c_g_9 :=
  Qj (L := []) hT g_g (fun _ _ => by kernel_rfl) okP _
abbrev c_g_15 : Cut := ⟨i_g_15, o_g_15, fun x => Qc l_g_15 lots x⟩
theorem t_g_15 (rec x) : run T G_g [(18, c_g_18)] (nav Tryz.f87 [1, 1, 1, 1, 0, 1, 0, 0]) (mk 122 i_g_15 x) (QeL i_g_15 o_g_15 rec) = l_g_15 rec x := by kernel_rfl
theorem k_g_15 : Qz Tryz.prog 122 (.loop (nav Tryz.f87 [1, 1, 1, 1, 0, 1, 0, 0])) c_g_15 :=
  Qj (L := [(18, c_g_18)]) hT g_g t_g_15 (okS okP (okS (okB (okS okP (okB (okU k_g_18)))) okP)) _
abbrev c_g_4 : Cut := ⟨i_g_4, o_g_4, fun x => Qc l_g_4 lots x⟩
theorem t_g_4 (rec x) : run T G_g [(9, c_g_9)] (nav Tryz.f87 [1, 1, 0, 1, 0, 0]) (mk 122 i_g_4 x) (QeL i_g_4 o_g_4 rec) = l_g_4 rec x := by kernel_rfl
theorem k_g_4 : Qz Tryz.prog 122 (.loop (nav Tryz.f87 [1, 1, 0, 1, 0, 0])) c_g_4 :=
  Qj (L := [(9, c_g_9)]) hT g_g t_g_4 (okS okP (okS (okB (okS okP (okS okP (okB (okU k_g_9))))) okP)) _
theorem r_g (x) : QL T G_g [(18, c_g_18), (9, c_g_9), (15, c_g_15), (4, c_g_4)] Tryz.f87 C_g.ps C_g.rs x = C_g.F x := by kernel_rfl
theorem s_g : Qb Tryz.prog 87 C_g := fnC (L := [(18, c_g_18), (9, c_g_9), (15, c_g_15), (4, c_g_4)]) hT g_g Tryz.f87 (okS okP (okS okP (okS (okS okP (okB (okU k_g_4))) (okS okP (okS (okS okP (okB (okU k_g_15))) okP))))) r_g
abbrev P_h : List PK := [.ptr Y28, .val YI]
def F_h (x : denP P_h) : FO P_h R_a :=
 let v1 := ((x.1.1.length : Nat) : Int)
 let v2 := (IntKind.i64.wrap (v1 - (1 : Int)))
 (F_e (x.2.1, (0 : Int), v2, ())).bind fun r3 =>
 some ((r3.1.1, ()), ())
abbrev C_h : Con := ⟨P_h, R_a, F_h, false⟩
abbrev G_h : Env := [(111, C_e)]
theorem g_h : Qh Tryz.prog G_h := (Qa s_e Qd)
theorem s_h : Qb Tryz.prog 143 C_h := fnC (L := []) hT g_h Tryz.f143 okP fun _ => by kernel_rfl
abbrev P_i : List PK := [.ptr Y28, .val YI, .val YI]
def F_i (x : denP P_i) : FO P_i R_c :=
 (F_h (x.1, x.2.1, ())).bind fun r1 =>
 if (!r1.1.1) = false then
  (F_h (x.1, x.2.2.1, ())).bind fun r2 =>
  if (!r2.1.1) then
   some (((4 : Int), ()), ())
  else
   if (x.2.1 == x.2.2.1) then
    some (((1 : Int), ()), ())
   else
    some (((0 : Int), ()), ())
 else
  some (((4 : Int), ()), ())
abbrev C_i : Con := ⟨P_i, R_c, F_i, false⟩
abbrev G_i : Env := [(143, C_h)]
theorem g_i : Qh Tryz.prog G_i := (Qa s_h Qd)
theorem s_i : Qb Tryz.prog 113 C_i := fnC (L := []) hT g_i Tryz.f113 okP fun _ => by kernel_rfl
abbrev i_j_2 : Shp := { slots := [(0, .s (.pd Y28)), (1, .s (.dat YI)), (5, .s (.dat YI))], boxes := [], rows := [] }
abbrev o_j_2 : List (Ex × Shp) := [(.exit 0, { slots := [], boxes := [], rows := [] }), (.ret, { slots := [(4, .s (.dat YI))], boxes := [], rows := [] })]
def l_j_2 (rec : i_j_2.den → Option (denO o_j_2)) (u : i_j_2.den) : Option (denO o_j_2) :=
 let v3 := ((u.1.1.1.length : Nat) : Int)
 if (ltI u.1.2.2.1 v3) then
  if 0 ≤ u.1.2.2.1 then
   ((u.1.1.1)[(u.1.2.2.1).toNat]?).bind fun y4 =>
   (F_f (y4, u.1.2.1, ())).bind fun r5 =>
   if r5.1.1 then
    some (.inr (.inl ((u.1.2.2.1, ()), ((), ()))))
   else
    let v6 := (IntKind.i64.wrap (u.1.2.2.1 + (1 : Int)))
    rec ((u.1.1, (u.1.2.1, (v6, ()))), ((), ()))
  else none
 else
  some (.inl ((), ((), ())))
def L_j_2 (x : i_j_2.den) : Option (denO o_j_2) := Qc l_j_2 lots x
def F_j (x : denP P_h) : FO P_h R_c :=
 (L_j_2 ((x.1, (x.2.1, ((0 : Int), ()))), ((), ()))).bind fun z7 =>
 match z7 with
 | .inl x8 =>
  some (((-1 : Int), ()), ())
 | .inr z7_ =>
  match z7_ with
  | .inl x9 =>
   some ((x9.1.1, ()), ())
  | .inr z7__ =>
   none
abbrev C_j : Con := ⟨P_h, R_c, F_j, false⟩
abbrev G_j : Env := [(112, C_f)]
theorem g_j : Qh Tryz.prog G_j := (Qa s_f Qd)
abbrev c_j_2 : Cut := ⟨i_j_2, o_j_2, fun x => Qc l_j_2 lots x⟩
theorem k_j_2 : Qz Tryz.prog 25 (.loop (nav Tryz.f114 [1, 0, 1, 0, 0])) c_j_2 :=
  Qj (L := []) hT g_j (fun _ _ => by kernel_rfl) okP _
theorem r_j (x) : QL T G_j [(2, c_j_2)] Tryz.f114 C_j.ps C_j.rs x = C_j.F x := by kernel_rfl
theorem s_j : Qb Tryz.prog 114 C_j := fnC (L := [(2, c_j_2)]) hT g_j Tryz.f114 (okS okP (okS (okS okP (okB (okU k_j_2))) okP)) r_j
abbrev P_k : List PK := [.val Y41, .val YI, .val YI]
def F_k (x : denP P_k) : FO P_k R_a :=
 if (x.1.1 == x.2.1) = true then
  if (x.1.2.2.2.1 == x.2.2.1) = false then
   if (x.1.2.1 == x.2.1) = true then
    some (((x.1.2.2.2.2.1 == x.2.2.1), ()), ())
   else
    some ((false, ()), ())
  else
   some ((true, ()), ())
 else
  if (x.1.2.1 == x.2.1) = true then
   some (((x.1.2.2.2.2.1 == x.2.2.1), ()), ())
  else
   some ((false, ()), ())
abbrev C_k : Con := ⟨P_k, R_a, F_k, false⟩
theorem s_k : Qb Tryz.prog 115 C_k := fnC (L := []) hT g_a Tryz.f115 okP fun _ => by kernel_rfl
abbrev i_l_15 : Shp := { slots := [(0, .s (.pd Y28)), (3, .s (.dat YI)), (4, .s (.ptr 4 0)), (6, .s (.dat YI)), (52, .s (.ptr 4 3)), (53, .s (.dat YI)), (54, .s (.dat .bool)), (55, .s (.dat .bool)), (58, .s (.ptr 4 4)), (59, .s (.dat YI)), (60, .s (.dat .bool)), (61, .s (.dat .bool))], boxes := [(4, [.dat YI, .dat YI, .dat YI, .dat YI, .dat YI])], rows := [] }
abbrev o_l_15 : List (Ex × Shp) := [(.exit 2, { slots := [(0, .s (.pd Y28)), (3, .s (.dat YI)), (52, .s (.ptr 4 3)), (53, .s (.dat YI)), (54, .s (.dat .bool)), (55, .s (.dat .bool)), (58, .s (.ptr 4 4)), (59, .s (.dat YI)), (60, .s (.dat .bool)), (61, .s (.dat .bool))], boxes := [(4, [.dat YI, .dat YI, .dat YI, .dat YI, .dat YI])], rows := [] }), (.ret, { slots := [(2, .s (.dat YI))], boxes := [], rows := [] })]
def l_l_15 (rec : i_l_15.den → Option (denO o_l_15)) (u : i_l_15.den) : Option (denO o_l_15) :=
 if (ltI u.1.2.2.2.1 u.1.2.1) then
  if 0 ≤ u.1.2.2.2.1 then
   ((u.1.1.2.1)[(u.1.2.2.2.1).toNat]?).bind fun y25 =>
   if (y25.2.2.1 == u.2.1.1.2.2.1) = false then
    (F_k (y25, u.2.1.1.1, u.2.1.1.2.2.2.1, ())).bind fun r26 =>
    if r26.1.1 = false then
     (F_k (y25, u.2.1.1.2.1, u.2.1.1.2.2.2.2.1, ())).bind fun r27 =>
     if r27.1.1 then
      some (.inr (.inl (((6 : Int), ()), ((), ()))))
     else
      let v28 := (IntKind.i64.wrap (u.1.2.2.2.1 + (1 : Int)))
      rec ((u.1.1, (u.1.2.1, ((), (v28, ((), (u.1.2.2.2.2.2.1, (u.1.2.2.2.2.2.2.1, (u.1.2.2.2.2.2.2.2.1, ((), (u.1.2.2.2.2.2.2.2.2.2.1, (u.1.2.2.2.2.2.2.2.2.2.2.1, (u.1.2.2.2.2.2.2.2.2.2.2.2.1, ())))))))))))), ((u.2.1.1, ()), ()))
    else
     some (.inr (.inl (((6 : Int), ()), ((), ()))))
   else
    some (.inr (.inl (((6 : Int), ()), ((), ()))))
  else none
 else
  some (.inl ((u.1.1, (u.1.2.1, ((), (u.1.2.2.2.2.2.1, (u.1.2.2.2.2.2.2.1, (u.1.2.2.2.2.2.2.2.1, ((), (u.1.2.2.2.2.2.2.2.2.2.1, (u.1.2.2.2.2.2.2.2.2.2.2.1, (u.1.2.2.2.2.2.2.2.2.2.2.2.1, ())))))))))), ((u.2.1.1, ()), ())))
def L_l_15 (x : i_l_15.den) : Option (denO o_l_15) := Qc l_l_15 lots x
abbrev o_l_4 : List (Ex × Shp) := [(.exit 0, { slots := [], boxes := [], rows := [] }), (.ret, { slots := [(2, .s (.dat YI))], boxes := [], rows := [] })]
def l_l_4 (rec : i_g_4.den → Option (denO o_l_4)) (u : i_g_4.den) : Option (denO o_l_4) :=
 let v15 := ((u.1.1.2.1.length : Nat) : Int)
 if (ltI u.1.2.1 v15) then
  if 0 ≤ u.1.2.1 then
   ((u.1.1.2.1)[(u.1.2.1).toNat]?).bind fun y16 =>
   (F_i (u.1.1, y16.1, y16.2.1, ())).bind fun r17 =>
   if (r17.1.1 != (0 : Int)) then
    some (.inr (.inl ((r17.1.1, ()), ((), ()))))
   else
    (F_e (y16.2.2.1, (0 : Int), (23 : Int), ())).bind fun r18 =>
    if (!r18.1.1) = false then
     (F_e (y16.2.2.2.1, (5 : Int), (6 : Int), ())).bind fun r19 =>
     if (!r19.1.1) = false then
      (F_e (y16.2.2.2.2.1, (5 : Int), (6 : Int), ())).bind fun r20 =>
      if (!r20.1.1) then
       some (.inr (.inl (((3 : Int), ()), ((), ()))))
      else
       (F_j (u.1.1, y16.2.2.1, ())).bind fun r21 =>
       if (leI (0 : Int) r21.1.1) then
        some (.inr (.inl (((6 : Int), ()), ((), ()))))
       else
        (L_l_15 ((u.1.1, (u.1.2.1, ((), ((0 : Int), ((), (y16.2.2.2.1, (r19.1.1, ((!r19.1.1), ((), (y16.2.2.2.2.1, (r20.1.1, ((!r20.1.1), ())))))))))))), (((y16.1, (y16.2.1, (y16.2.2.1, (y16.2.2.2.1, (y16.2.2.2.2.1, ()))))), ()), ()))).bind fun z29 =>
        match z29 with
        | .inl x30 =>
         let v31 := (IntKind.i64.wrap (x30.1.2.1 + (1 : Int)))
         rec ((x30.1.1, (v31, ())), ((), ()))
        | .inr z29_ =>
         match z29_ with
         | .inl x32 =>
          some (.inr (.inl ((x32.1.1, ()), ((), ()))))
         | .inr z29__ =>
          none
     else
      some (.inr (.inl (((3 : Int), ()), ((), ()))))
    else
     some (.inr (.inl (((3 : Int), ()), ((), ()))))
  else none
 else
  some (.inl ((), ((), ())))
def L_l_4 (x : i_g_4.den) : Option (denO o_l_4) := Qc l_l_4 lots x
def F_l (x : denP P_g) : FO P_g R_c :=
 let v1 := ((x.1.2.1.length : Nat) : Int)
 if (ltI (4 : Int) v1) = false then
  let v2 := ((x.1.2.2.1.length : Nat) : Int)
  if (ltI (4 : Int) v2) then
   some (((2 : Int), ()), ())
  else
   (L_l_4 ((x.1, ((0 : Int), ())), ((), ()))).bind fun z33 =>
   match z33 with
   | .inl x34 =>
    some (((0 : Int), ()), ())
   | .inr z33_ =>
    match z33_ with
    | .inl x35 =>
     some ((x35.1.1, ()), ())
    | .inr z33__ =>
     none
 else
  some (((2 : Int), ()), ())
abbrev C_l : Con := ⟨P_g, R_c, F_l, false⟩
abbrev G_l : Env := [(111, C_e), (113, C_i), (114, C_j), (115, C_k)]
theorem g_l : Qh Tryz.prog G_l := (Qa s_e (Qa s_i (Qa s_j (Qa s_k Qd))))
abbrev c_l_15 : Cut := ⟨i_l_15, o_l_15, fun x => Qc l_l_15 lots x⟩
theorem k_l_15 : Qz Tryz.prog 101 (.loop (nav Tryz.f88 [1, 1, 0, 1, 0, 0, 1, 0, 0, 1, 1, 1, 1, 1, 0, 0])) c_l_15 :=
  Qj (L := []) hT g_l (fun _ _ => by kernel_rfl) okP _
abbrev c_l_4 : Cut := ⟨i_g_4, o_l_4, fun x => Qc l_l_4 lots x⟩
theorem t_l_4 (rec x) : run T G_l [(15, c_l_15)] (nav Tryz.f88 [1, 1, 0, 1, 0, 0]) (mk 101 i_g_4 x) (QeL i_g_4 o_l_4 rec) = l_l_4 rec x := by kernel_rfl
theorem k_l_4 : Qz Tryz.prog 101 (.loop (nav Tryz.f88 [1, 1, 0, 1, 0, 0])) c_l_4 :=
  Qj (L := [(15, c_l_15)]) hT g_l t_l_4 (okS okP (okS (okB (okS okP (okS okP (okS okP (okS okP (okS okP (okB (okU k_l_15)))))))) okP)) _
theorem r_l (x) : QL T G_l [(15, c_l_15), (4, c_l_4)] Tryz.f88 C_l.ps C_l.rs x = C_l.F x := by kernel_rfl
theorem s_l : Qb Tryz.prog 88 C_l := fnC (L := [(15, c_l_15), (4, c_l_4)]) hT g_l Tryz.f88 (okS okP (okS okP (okS (okS okP (okB (okU k_l_4))) okP))) r_l
abbrev P_m : List PK := [.box [.dat Y22, .dat YI] [.dat Y22, .dat YI]]
abbrev R_m : List VK := [.g [.own 32 Y32, .own 42 Y41, .own 112 Y70, .own 71 Y70]]
abbrev i_m_8 : Shp := { slots := [(0, .s (.ptr 9000000 0)), (2, .s (.ptr 2 0)), (3, .s (.ptr 3 0)), (4, .s (.dat YI)), (5, .s (.dat YI)), (6, .s (.own 2 YI)), (7, .s (.dat YI))], boxes := [(2, [.own 32 Y32, .own 42 Y41, .own 112 Y70, .own 71 Y70]), (3, [.own 32 Y32, .own 42 Y41, .own 112 Y70, .own 71 Y70]), (9000000, [.dat Y22, .dat YI])], rows := [] }
abbrev o_m_8 : List (Ex × Shp) := [(.exit 2, { slots := [(0, .s (.ptr 9000000 0)), (2, .s (.ptr 2 0)), (3, .s (.ptr 3 0)), (4, .s (.dat YI)), (5, .s (.dat YI)), (6, .s (.own 2 YI))], boxes := [(2, [.own 32 Y32, .own 42 Y41, .own 112 Y70, .own 71 Y70]), (3, [.own 32 Y32, .own 42 Y41, .own 112 Y70, .own 71 Y70]), (9000000, [.dat Y22, .dat YI])], rows := [] })]
def l_m_8 (rec : i_m_8.den → Option (denO o_m_8)) (u : i_m_8.den) : Option (denO o_m_8) :=
 if (ltI (0 : Int) u.1.2.2.2.2.2.2.1) then
  if (u.1.2.2.2.2.2.1.length + [u.1.2.2.2.1].length) * 8 ≤ 140737488355328 then
   let v8 := (u.1.2.2.2.2.2.1 ++ [u.1.2.2.2.1])
   let v9 := (IntKind.i64.wrap (u.1.2.2.2.1 + (1 : Int)))
   let v10 := (IntKind.i64.wrap (u.1.2.2.2.2.2.2.1 - (1 : Int)))
   rec (((), ((), ((), (v9, (u.1.2.2.2.2.1, (v8, (v10, ()))))))), ((u.2.1.1, (u.2.1.2.1, (u.2.1.2.2.1, ()))), ()))
  else none
 else
  some (.inl (((), ((), ((), (u.1.2.2.2.1, (u.1.2.2.2.2.1, (u.1.2.2.2.2.2.1, ())))))), ((u.2.1.1, (u.2.1.2.1, (u.2.1.2.2.1, ()))), ())))
def L_m_8 (x : i_m_8.den) : Option (denO o_m_8) := Qc l_m_8 lots x
abbrev i_m_29 : Shp := { slots := [(0, .s (.ptr 9000000 0)), (2, .s (.ptr 2 0)), (3, .s (.ptr 3 0)), (8, .s (.dat YI)), (13, .s (.dat YI))], boxes := [(2, [.own 32 Y32, .own 42 Y41, .own 112 Y70, .own 71 Y70]), (3, [.own 32 Y32, .own 42 Y41, .own 112 Y70, .own 71 Y70]), (9000000, [.dat Y22, .dat YI])], rows := [] }
abbrev o_m_29 : List (Ex × Shp) := [(.exit 8, { slots := [(2, .s (.ptr 2 0)), (3, .s (.ptr 3 0))], boxes := [(2, [.own 32 Y32, .own 42 Y41, .own 112 Y70, .own 71 Y70]), (3, [.own 32 Y32, .own 42 Y41, .own 112 Y70, .own 71 Y70]), (9000000, [.dat Y22, .dat YI])], rows := [] })]
def l_m_29 (rec : i_m_29.den → Option (denO o_m_29)) (u : i_m_29.den) : Option (denO o_m_29) :=
 if (ltI (0 : Int) u.1.2.2.2.2.1) then
  (F_c (u.2.1.2.2.1, u.1.2.2.2.1, ())).bind fun r57 =>
  (F_c (r57.2.1, (9 : Int), ())).bind fun r58 =>
  let v59 := (IntKind.i64.wrap ((1 : Int) + r58.1.1))
  if (u.2.1.2.1.2.2.2.1.length + [(r57.1.1, (v59, ()))].length) * 16 ≤ 140737488355328 then
   let v60 := (u.2.1.2.1.2.2.2.1 ++ [(r57.1.1, (v59, ()))])
   let v61 := (IntKind.i64.wrap (u.1.2.2.2.2.1 - (1 : Int)))
   rec (((), ((), ((), (u.1.2.2.2.1, (v61, ()))))), ((u.2.1.1, ((u.2.1.2.1.1, (u.2.1.2.1.2.1, (u.2.1.2.1.2.2.1, (v60, ())))), (r58.2.1, ()))), ()))
  else none
 else
  some (.inl (((), ((), ())), ((u.2.1.1, (u.2.1.2.1, (u.2.1.2.2.1, ()))), ())))
def L_m_29 (x : i_m_29.den) : Option (denO o_m_29) := Qc l_m_29 lots x
abbrev i_m_23 : Shp := { slots := [(0, .s (.ptr 9000000 0)), (2, .s (.ptr 2 0)), (3, .s (.ptr 3 0)), (8, .s (.dat YI)), (11, .s (.dat YI))], boxes := [(2, [.own 32 Y32, .own 42 Y41, .own 112 Y70, .own 71 Y70]), (3, [.own 32 Y32, .own 42 Y41, .own 112 Y70, .own 71 Y70]), (9000000, [.dat Y22, .dat YI])], rows := [] }
abbrev o_m_23 : List (Ex × Shp) := [(.exit 6, { slots := [(0, .s (.ptr 9000000 0)), (2, .s (.ptr 2 0)), (3, .s (.ptr 3 0)), (8, .s (.dat YI))], boxes := [(2, [.own 32 Y32, .own 42 Y41, .own 112 Y70, .own 71 Y70]), (3, [.own 32 Y32, .own 42 Y41, .own 112 Y70, .own 71 Y70]), (9000000, [.dat Y22, .dat YI])], rows := [] })]
def l_m_23 (rec : i_m_23.den → Option (denO o_m_23)) (u : i_m_23.den) : Option (denO o_m_23) :=
 if (ltI (0 : Int) u.1.2.2.2.2.1) then
  (F_c (u.2.1.2.2.1, u.1.2.2.2.1, ())).bind fun r44 =>
  (F_c (r44.2.1, u.1.2.2.2.1, ())).bind fun r45 =>
  if (r44.1.1 != r45.1.1) = true then
   let v46 := ((u.2.1.2.1.2.2.1.length : Nat) : Int)
   if (ltI v46 (1 : Int)) then
    if (u.2.1.2.1.2.2.1.length + [(r44.1.1, (r45.1.1, ()))].length) * 16 ≤ 140737488355328 then
     let v47 := (u.2.1.2.1.2.2.1 ++ [(r44.1.1, (r45.1.1, ()))])
     let v48 := (IntKind.i64.wrap (u.1.2.2.2.2.1 - (1 : Int)))
     rec (((), ((), ((), (u.1.2.2.2.1, (v48, ()))))), ((u.2.1.1, ((u.2.1.2.1.1, (u.2.1.2.1.2.1, (v47, (u.2.1.2.1.2.2.2.1, ())))), (r45.2.1, ()))), ()))
    else none
   else
    let v49 := (IntKind.i64.wrap (u.1.2.2.2.2.1 - (1 : Int)))
    rec (((), ((), ((), (u.1.2.2.2.1, (v49, ()))))), ((u.2.1.1, (u.2.1.2.1, (r45.2.1, ()))), ()))
  else
   let v50 := (IntKind.i64.wrap (u.1.2.2.2.2.1 - (1 : Int)))
   rec (((), ((), ((), (u.1.2.2.2.1, (v50, ()))))), ((u.2.1.1, (u.2.1.2.1, (r45.2.1, ()))), ()))
 else
  some (.inl (((), ((), ((), (u.1.2.2.2.1, ())))), ((u.2.1.1, (u.2.1.2.1, (u.2.1.2.2.1, ()))), ())))
def L_m_23 (x : i_m_23.den) : Option (denO o_m_23) := Qc l_m_23 lots x
abbrev i_m_15 : Shp := { slots := [(0, .s (.ptr 9000000 0)), (2, .s (.ptr 2 0)), (3, .s (.ptr 3 0)), (4, .s (.dat YI)), (8, .s (.dat YI)), (9, .s (.dat YI))], boxes := [(2, [.own 32 Y32, .own 42 Y41, .own 112 Y70, .own 71 Y70]), (3, [.own 32 Y32, .own 42 Y41, .own 112 Y70, .own 71 Y70]), (9000000, [.dat Y22, .dat YI])], rows := [] }
abbrev o_m_15 : List (Ex × Shp) := [(.exit 4, { slots := [(0, .s (.ptr 9000000 0)), (2, .s (.ptr 2 0)), (3, .s (.ptr 3 0)), (8, .s (.dat YI))], boxes := [(2, [.own 32 Y32, .own 42 Y41, .own 112 Y70, .own 71 Y70]), (3, [.own 32 Y32, .own 42 Y41, .own 112 Y70, .own 71 Y70]), (9000000, [.dat Y22, .dat YI])], rows := [] })]
def l_m_15 (rec : i_m_15.den → Option (denO o_m_15)) (u : i_m_15.den) : Option (denO o_m_15) :=
 if (ltI (0 : Int) u.1.2.2.2.2.2.1) then
  if (([] : List (den Y41)).length + u.2.1.2.1.2.1.length) * 40 ≤ 140737488355328 then
   let v25 := (([] : List (den Y41)) ++ u.2.1.2.1.2.1)
   (F_c (u.2.1.2.2.1, u.1.2.2.2.2.1, ())).bind fun r26 =>
   (F_c (r26.2.1, u.1.2.2.2.2.1, ())).bind fun r27 =>
   (F_c (r27.2.1, (2 : Int), ())).bind fun r28 =>
   let v29 := (IntKind.i64.wrap ((5 : Int) + r28.1.1))
   (F_c (r28.2.1, (2 : Int), ())).bind fun r30 =>
   let v31 := (IntKind.i64.wrap ((5 : Int) + r30.1.1))
   if (v25.length + [(r26.1.1, (r27.1.1, (u.1.2.2.2.1, (v29, (v31, ())))))].length) * 40 ≤ 140737488355328 then
    let v32 := (v25 ++ [(r26.1.1, (r27.1.1, (u.1.2.2.2.1, (v29, (v31, ())))))])
    (F_g ((u.2.1.2.1.1, (v32, (u.2.1.2.1.2.2.1, (u.2.1.2.1.2.2.2.1, ())))), ())).bind fun r33 =>
    if (r33.1.1 == (0 : Int)) = true then
     (F_l ((u.2.1.2.1.1, (v32, (u.2.1.2.1.2.2.1, (u.2.1.2.1.2.2.2.1, ())))), ())).bind fun r34 =>
     if (r34.1.1 == (0 : Int)) then
      let v35 := (IntKind.i64.wrap (u.1.2.2.2.1 + (1 : Int)))
      let v36 := (IntKind.i64.wrap (u.1.2.2.2.2.2.1 - (1 : Int)))
      rec (((), ((), ((), (v35, (u.1.2.2.2.2.1, (v36, ())))))), ((u.2.1.1, ((u.2.1.2.1.1, (v32, (u.2.1.2.1.2.2.1, (u.2.1.2.1.2.2.2.1, ())))), (r30.2.1, ()))), ()))
     else
      let v37 := (IntKind.i64.wrap (u.1.2.2.2.2.2.1 - (1 : Int)))
      rec (((), ((), ((), (u.1.2.2.2.1, (u.1.2.2.2.2.1, (v37, ())))))), ((u.2.1.1, (u.2.1.2.1, (r30.2.1, ()))), ()))
    else
     let v38 := (IntKind.i64.wrap (u.1.2.2.2.2.2.1 - (1 : Int)))
     rec (((), ((), ((), (u.1.2.2.2.1, (u.1.2.2.2.2.1, (v38, ())))))), ((u.2.1.1, (u.2.1.2.1, (r30.2.1, ()))), ()))
   else none
  else none
 else
  some (.inl (((), ((), ((), (u.1.2.2.2.2.1, ())))), ((u.2.1.1, (u.2.1.2.1, (u.2.1.2.2.1, ()))), ())))
def L_m_15 (x : i_m_15.den) : Option (denO o_m_15) := Qc l_m_15 lots x
abbrev i_m_4 : Shp := { slots := [(0, .s (.ptr 9000000 0)), (2, .s (.ptr 2 0)), (3, .s (.ptr 3 0)), (4, .s (.dat YI)), (5, .s (.dat YI))], boxes := [(2, [.own 32 Y32, .own 42 Y41, .own 112 Y70, .own 71 Y70]), (3, [.own 32 Y32, .own 42 Y41, .own 112 Y70, .own 71 Y70]), (9000000, [.dat Y22, .dat YI])], rows := [] }
abbrev o_m_4 : List (Ex × Shp) := [(.exit 0, { slots := [(0, .s (.ptr 9000000 0)), (2, .s (.ptr 2 0)), (3, .s (.ptr 3 0)), (4, .s (.dat YI))], boxes := [(2, [.own 32 Y32, .own 42 Y41, .own 112 Y70, .own 71 Y70]), (3, [.own 32 Y32, .own 42 Y41, .own 112 Y70, .own 71 Y70]), (9000000, [.dat Y22, .dat YI])], rows := [] })]
def l_m_4 (rec : i_m_4.den → Option (denO o_m_4)) (u : i_m_4.den) : Option (denO o_m_4) :=
 if (ltI (0 : Int) u.1.2.2.2.2.1) then
  (F_c (u.2.1.2.2.1, (3 : Int), ())).bind fun r6 =>
  let v7 := (IntKind.i64.wrap ((1 : Int) + r6.1.1))
  (L_m_8 (((), ((), ((), (u.1.2.2.2.1, (u.1.2.2.2.2.1, (([] : List (den YI)), (v7, ()))))))), ((u.2.1.1, (u.2.1.2.1, (r6.2.1, ()))), ()))).bind fun z11 =>
  match z11 with
  | .inl x12 =>
   if (x12.2.1.2.1.1.length + [x12.1.2.2.2.2.2.1].length) * 24 ≤ 140737488355328 then
    let v13 := (x12.2.1.2.1.1 ++ [x12.1.2.2.2.2.2.1])
    let v14 := (IntKind.i64.wrap (x12.1.2.2.2.2.1 - (1 : Int)))
    rec (((), ((), ((), (x12.1.2.2.2.1, (v14, ()))))), ((x12.2.1.1, ((v13, (x12.2.1.2.1.2.1, (x12.2.1.2.1.2.2.1, (x12.2.1.2.1.2.2.2.1, ())))), (x12.2.1.2.2.1, ()))), ()))
   else none
  | .inr z11_ =>
   none
 else
  some (.inl (((), ((), ((), (u.1.2.2.2.1, ())))), ((u.2.1.1, (u.2.1.2.1, (u.2.1.2.2.1, ()))), ())))
def L_m_4 (x : i_m_4.den) : Option (denO o_m_4) := Qc l_m_4 lots x
def F_m (x : denP P_m) : FO P_m R_m :=
 (F_c (x.1, (3 : Int), ())).bind fun r1 =>
 (F_d (r1.2.1, [(2 : Int), (3 : Int), (3 : Int), (1 : Int)], ())).bind fun r2 =>
 (L_m_4 (((), ((), ((), (r1.1.1, (r2.1.1, ()))))), (((([] : List (den Y32)), (([] : List (den Y41)), (([] : List (den Y70)), (([] : List (den Y70)), ())))), ((([] : List (den Y32)), (([] : List (den Y41)), (([] : List (den Y70)), (([] : List (den Y70)), ())))), (r2.2.1, ()))), ()))).bind fun z15 =>
 match z15 with
 | .inl x16 =>
  let v17 := ((x16.2.1.2.1.1.length : Nat) : Int)
  (F_c (x16.2.1.2.2.1, (4 : Int), ())).bind fun r18 =>
  (L_m_15 (((), ((), ((), (x16.1.2.2.2.1, (v17, (r18.1.1, ())))))), ((x16.2.1.1, (x16.2.1.2.1, (r18.2.1, ()))), ()))).bind fun z39 =>
  match z39 with
  | .inl x40 =>
   (F_c (x40.2.1.2.2.1, (3 : Int), ())).bind fun r41 =>
   (L_m_23 (((), ((), ((), (x40.1.2.2.2.1, (r41.1.1, ()))))), ((x40.2.1.1, (x40.2.1.2.1, (r41.2.1, ()))), ()))).bind fun z51 =>
   match z51 with
   | .inl x52 =>
    (F_c (x52.2.1.2.2.1, (4 : Int), ())).bind fun r53 =>
    let v54 := (IntKind.i64.wrap ((1 : Int) + r53.1.1))
    (L_m_29 (((), ((), ((), (x52.1.2.2.2.1, (v54, ()))))), ((x52.2.1.1, (x52.2.1.2.1, (r53.2.1, ()))), ()))).bind fun z62 =>
    match z62 with
    | .inl x63 =>
     some ((x63.2.1.2.1, ()), (x63.2.1.2.2.1, ()))
    | .inr z62_ =>
     none
   | .inr z51_ =>
    none
  | .inr z39_ =>
   none
 | .inr z15_ =>
  none
abbrev C_m : Con := ⟨P_m, R_m, F_m, false⟩
abbrev G_m : Env := [(53, C_c), (86, C_d), (87, C_g), (88, C_l)]
theorem g_m : Qh Tryz.prog G_m := (Qa s_c (Qa s_d (Qa s_g (Qa s_l Qd))))
abbrev c_m_8 : Cut := ⟨i_m_8, o_m_8, fun x => Qc l_m_8 lots x⟩
theorem k_m_8 : Qz Tryz.prog 134 (.loop (nav Tryz.f56 [1, 1, 1, 0, 1, 0, 0, 1, 0, 0, 1, 0, 1, 0, 0])) c_m_8 :=
  Qj (L := []) hT g_m (fun _ _ => by kernel_rfl) okP _
abbrev c_m_29 : Cut := ⟨i_m_29, o_m_29, fun x => Qc l_m_29 lots x⟩
theorem k_m_29 : Qz Tryz.prog 134 (.loop (nav Tryz.f56 [1, 1, 1, 1, 1, 1, 1, 0, 1, 0, 0])) c_m_29 :=
  Qj (L := []) hT g_m (fun _ _ => by kernel_rfl) okP _
abbrev c_m_23 : Cut := ⟨i_m_23, o_m_23, fun x => Qc l_m_23 lots x⟩
theorem k_m_23 : Qz Tryz.prog 134 (.loop (nav Tryz.f56 [1, 1, 1, 1, 1, 1, 0, 1, 0, 0])) c_m_23 :=
  Qj (L := []) hT g_m (fun _ _ => by kernel_rfl) okP _
abbrev c_m_15 : Cut := ⟨i_m_15, o_m_15, fun x => Qc l_m_15 lots x⟩
theorem k_m_15 : Qz Tryz.prog 134 (.loop (nav Tryz.f56 [1, 1, 1, 1, 1, 0, 1, 0, 0])) c_m_15 :=
  Qj (L := []) hT g_m (fun _ _ => by kernel_rfl) okP _
abbrev c_m_4 : Cut := ⟨i_m_4, o_m_4, fun x => Qc l_m_4 lots x⟩
theorem t_m_4 (rec x) : run T G_m [(8, c_m_8)] (nav Tryz.f56 [1, 1, 1, 0, 1, 0, 0]) (mk 134 i_m_4 x) (QeL i_m_4 o_m_4 rec) = l_m_4 rec x := by kernel_rfl
theorem k_m_4 : Qz Tryz.prog 134 (.loop (nav Tryz.f56 [1, 1, 1, 0, 1, 0, 0])) c_m_4 :=
  Qj (L := [(8, c_m_8)]) hT g_m t_m_4 (okS okP (okS (okB (okS okP (okS (okS okP (okB (okU k_m_8))) okP))) okP)) _
theorem r_m (x) : QL T G_m [(8, c_m_8), (29, c_m_29), (23, c_m_23), (15, c_m_15), (4, c_m_4)] Tryz.f56 C_m.ps C_m.rs x = C_m.F x := by kernel_rfl
theorem s_m : Qb Tryz.prog 56 C_m := fnC (L := [(8, c_m_8), (29, c_m_29), (23, c_m_23), (15, c_m_15), (4, c_m_4)]) hT g_m Tryz.f56 (okS okP (okS okP (okS okP (okS (okS okP (okB (okU k_m_4))) (okS okP (okS (okS okP (okB (okU k_m_15))) (okS (okS okP (okB (okU k_m_23))) (okS (okS okP (okB (okU k_m_29))) okP)))))))) r_m
def F_n (x : denP P_a) : FO P_a R_m :=
 (F_b (x.1, ())).bind fun r1 =>
 (F_m ((r1.1.1.1, (r1.1.1.2.1, ())), ())).bind fun r2 =>
 some ((r2.1.1, ()), ())
abbrev C_n : Con := ⟨P_a, R_m, F_n, false⟩
abbrev G_n : Env := [(51, C_b), (56, C_m)]
theorem g_n : Qh Tryz.prog G_n := (Qa s_b (Qa s_m Qd))
theorem s_n : Qb Tryz.prog 22 C_n := fnC (L := []) hT g_n Tryz.f22 okP fun _ => by kernel_rfl
abbrev P_o : List PK := [.val YI]
abbrev R_o : List VK := [.s (.dat .bool), .s (.dat .bool), .s (.dat .bool)]
def F_o (x : denP P_o) : FO P_o R_o :=
 if (x.1 == (13 : Int)) then
  some ((false, true, false, ()), ())
 else
  if (x.1 == (19 : Int)) then
   some ((false, true, false, ()), ())
  else
   if (x.1 == (21 : Int)) then
    some ((false, true, false, ()), ())
   else
    if (x.1 == (22 : Int)) then
     some ((true, false, false, ()), ())
    else
     if (x.1 == (23 : Int)) then
      some ((true, true, true, ()), ())
     else
      if (x.1 == (24 : Int)) then
       some ((true, true, true, ()), ())
      else
       if (x.1 == (25 : Int)) then
        some ((true, true, true, ()), ())
       else
        if (x.1 == (26 : Int)) then
         some ((true, true, true, ()), ())
        else
         some ((false, false, false, ()), ())
abbrev C_o : Con := ⟨P_o, R_o, F_o, false⟩
theorem s_o : Qb Tryz.prog 165 C_o := fnC (L := []) hT g_a Tryz.f165 okP fun _ => by kernel_rfl
abbrev R_p : List VK := [.s (.dat Y162)]
def F_p (x : denP P_m) : FO P_m R_p :=
 (F_c (x.1, (26 : Int), ())).bind fun r1 =>
 let v2 := (IntKind.i64.wrap ((1 : Int) + r1.1.1))
 (F_c (r1.2.1, (16 : Int), ())).bind fun r3 =>
 (F_c (r3.2.1, (16 : Int), ())).bind fun r4 =>
 (F_c (r4.2.1, (16 : Int), ())).bind fun r5 =>
 (F_c (r5.2.1, (64 : Int), ())).bind fun r6 =>
 (F_c (r6.2.1, (8 : Int), ())).bind fun r7 =>
 let v8 := (IntKind.i64.wrap ((65535 : Int) - r7.1.1))
 (F_d (r7.2.1, [r5.1.1, r6.1.1, v8], ())).bind fun r9 =>
 (F_o (v2, ())).bind fun r10 =>
 if r10.1.1 then
  if r10.1.2.1 then
   if r10.1.2.2.1 then
    if (leI v2 (11 : Int)) then
     let v11 := (((0 : Int)).tmod (16 : Int))
     if (v2 == (21 : Int)) = false then
      if (v2 == (22 : Int)) then
       let v12 := ((v11).tmod (11 : Int))
       some (((v2, ((0 : Int), ((0 : Int), (v12, ())))), ()), (r9.2.1, ()))
      else
       some (((v2, ((0 : Int), ((0 : Int), (v11, ())))), ()), (r9.2.1, ()))
     else
      let v13 := ((v11).tmod (11 : Int))
      some (((v2, ((0 : Int), ((0 : Int), (v13, ())))), ()), (r9.2.1, ()))
    else
     if (v2 == (21 : Int)) = false then
      if (v2 == (22 : Int)) then
       let v14 := (((0 : Int)).tmod (11 : Int))
       some (((v2, ((0 : Int), ((0 : Int), (v14, ())))), ()), (r9.2.1, ()))
      else
       some (((v2, ((0 : Int), ((0 : Int), ((0 : Int), ())))), ()), (r9.2.1, ()))
     else
      let v15 := (((0 : Int)).tmod (11 : Int))
      some (((v2, ((0 : Int), ((0 : Int), (v15, ())))), ()), (r9.2.1, ()))
   else
    if (leI v2 (11 : Int)) then
     let v16 := ((r9.1.1).tmod (16 : Int))
     if (v2 == (21 : Int)) = false then
      if (v2 == (22 : Int)) then
       let v17 := ((v16).tmod (11 : Int))
       some (((v2, ((0 : Int), ((0 : Int), (v17, ())))), ()), (r9.2.1, ()))
      else
       some (((v2, ((0 : Int), ((0 : Int), (v16, ())))), ()), (r9.2.1, ()))
     else
      let v18 := ((v16).tmod (11 : Int))
      some (((v2, ((0 : Int), ((0 : Int), (v18, ())))), ()), (r9.2.1, ()))
    else
     if (v2 == (21 : Int)) = false then
      if (v2 == (22 : Int)) then
       let v19 := ((r9.1.1).tmod (11 : Int))
       some (((v2, ((0 : Int), ((0 : Int), (v19, ())))), ()), (r9.2.1, ()))
      else
       some (((v2, ((0 : Int), ((0 : Int), (r9.1.1, ())))), ()), (r9.2.1, ()))
     else
      let v20 := ((r9.1.1).tmod (11 : Int))
      some (((v2, ((0 : Int), ((0 : Int), (v20, ())))), ()), (r9.2.1, ()))
  else
   if r10.1.2.2.1 then
    if (leI v2 (11 : Int)) then
     let v21 := (((0 : Int)).tmod (16 : Int))
     if (v2 == (21 : Int)) = false then
      if (v2 == (22 : Int)) then
       let v22 := ((v21).tmod (11 : Int))
       some (((v2, ((0 : Int), (r4.1.1, (v22, ())))), ()), (r9.2.1, ()))
      else
       some (((v2, ((0 : Int), (r4.1.1, (v21, ())))), ()), (r9.2.1, ()))
     else
      let v23 := ((v21).tmod (11 : Int))
      some (((v2, ((0 : Int), (r4.1.1, (v23, ())))), ()), (r9.2.1, ()))
    else
     if (v2 == (21 : Int)) = false then
      if (v2 == (22 : Int)) then
       let v24 := (((0 : Int)).tmod (11 : Int))
       some (((v2, ((0 : Int), (r4.1.1, (v24, ())))), ()), (r9.2.1, ()))
      else
       some (((v2, ((0 : Int), (r4.1.1, ((0 : Int), ())))), ()), (r9.2.1, ()))
     else
      let v25 := (((0 : Int)).tmod (11 : Int))
      some (((v2, ((0 : Int), (r4.1.1, (v25, ())))), ()), (r9.2.1, ()))
   else
    if (leI v2 (11 : Int)) then
     let v26 := ((r9.1.1).tmod (16 : Int))
     if (v2 == (21 : Int)) = false then
      if (v2 == (22 : Int)) then
       let v27 := ((v26).tmod (11 : Int))
       some (((v2, ((0 : Int), (r4.1.1, (v27, ())))), ()), (r9.2.1, ()))
      else
       some (((v2, ((0 : Int), (r4.1.1, (v26, ())))), ()), (r9.2.1, ()))
     else
      let v28 := ((v26).tmod (11 : Int))
      some (((v2, ((0 : Int), (r4.1.1, (v28, ())))), ()), (r9.2.1, ()))
    else
     if (v2 == (21 : Int)) = false then
      if (v2 == (22 : Int)) then
       let v29 := ((r9.1.1).tmod (11 : Int))
       some (((v2, ((0 : Int), (r4.1.1, (v29, ())))), ()), (r9.2.1, ()))
      else
       some (((v2, ((0 : Int), (r4.1.1, (r9.1.1, ())))), ()), (r9.2.1, ()))
     else
      let v30 := ((r9.1.1).tmod (11 : Int))
      some (((v2, ((0 : Int), (r4.1.1, (v30, ())))), ()), (r9.2.1, ()))
 else
  if r10.1.2.1 then
   if r10.1.2.2.1 then
    if (leI v2 (11 : Int)) then
     let v31 := (((0 : Int)).tmod (16 : Int))
     if (v2 == (21 : Int)) = false then
      if (v2 == (22 : Int)) then
       let v32 := ((v31).tmod (11 : Int))
       some (((v2, (r3.1.1, ((0 : Int), (v32, ())))), ()), (r9.2.1, ()))
      else
       some (((v2, (r3.1.1, ((0 : Int), (v31, ())))), ()), (r9.2.1, ()))
     else
      let v33 := ((v31).tmod (11 : Int))
      some (((v2, (r3.1.1, ((0 : Int), (v33, ())))), ()), (r9.2.1, ()))
    else
     if (v2 == (21 : Int)) = false then
      if (v2 == (22 : Int)) then
       let v34 := (((0 : Int)).tmod (11 : Int))
       some (((v2, (r3.1.1, ((0 : Int), (v34, ())))), ()), (r9.2.1, ()))
      else
       some (((v2, (r3.1.1, ((0 : Int), ((0 : Int), ())))), ()), (r9.2.1, ()))
     else
      let v35 := (((0 : Int)).tmod (11 : Int))
      some (((v2, (r3.1.1, ((0 : Int), (v35, ())))), ()), (r9.2.1, ()))
   else
    if (leI v2 (11 : Int)) then
     let v36 := ((r9.1.1).tmod (16 : Int))
     if (v2 == (21 : Int)) = false then
      if (v2 == (22 : Int)) then
       let v37 := ((v36).tmod (11 : Int))
       some (((v2, (r3.1.1, ((0 : Int), (v37, ())))), ()), (r9.2.1, ()))
      else
       some (((v2, (r3.1.1, ((0 : Int), (v36, ())))), ()), (r9.2.1, ()))
     else
      let v38 := ((v36).tmod (11 : Int))
      some (((v2, (r3.1.1, ((0 : Int), (v38, ())))), ()), (r9.2.1, ()))
    else
     if (v2 == (21 : Int)) = false then
      if (v2 == (22 : Int)) then
       let v39 := ((r9.1.1).tmod (11 : Int))
       some (((v2, (r3.1.1, ((0 : Int), (v39, ())))), ()), (r9.2.1, ()))
      else
       some (((v2, (r3.1.1, ((0 : Int), (r9.1.1, ())))), ()), (r9.2.1, ()))
     else
      let v40 := ((r9.1.1).tmod (11 : Int))
      some (((v2, (r3.1.1, ((0 : Int), (v40, ())))), ()), (r9.2.1, ()))
  else
   if r10.1.2.2.1 then
    if (leI v2 (11 : Int)) then
     let v41 := (((0 : Int)).tmod (16 : Int))
     if (v2 == (21 : Int)) = false then
      if (v2 == (22 : Int)) then
       let v42 := ((v41).tmod (11 : Int))
       some (((v2, (r3.1.1, (r4.1.1, (v42, ())))), ()), (r9.2.1, ()))
      else
       some (((v2, (r3.1.1, (r4.1.1, (v41, ())))), ()), (r9.2.1, ()))
     else
      let v43 := ((v41).tmod (11 : Int))
      some (((v2, (r3.1.1, (r4.1.1, (v43, ())))), ()), (r9.2.1, ()))
    else
     if (v2 == (21 : Int)) = false then
      if (v2 == (22 : Int)) then
       let v44 := (((0 : Int)).tmod (11 : Int))
       some (((v2, (r3.1.1, (r4.1.1, (v44, ())))), ()), (r9.2.1, ()))
      else
       some (((v2, (r3.1.1, (r4.1.1, ((0 : Int), ())))), ()), (r9.2.1, ()))
     else
      let v45 := (((0 : Int)).tmod (11 : Int))
      some (((v2, (r3.1.1, (r4.1.1, (v45, ())))), ()), (r9.2.1, ()))
   else
    if (leI v2 (11 : Int)) then
     let v46 := ((r9.1.1).tmod (16 : Int))
     if (v2 == (21 : Int)) = false then
      if (v2 == (22 : Int)) then
       let v47 := ((v46).tmod (11 : Int))
       some (((v2, (r3.1.1, (r4.1.1, (v47, ())))), ()), (r9.2.1, ()))
      else
       some (((v2, (r3.1.1, (r4.1.1, (v46, ())))), ()), (r9.2.1, ()))
     else
      let v48 := ((v46).tmod (11 : Int))
      some (((v2, (r3.1.1, (r4.1.1, (v48, ())))), ()), (r9.2.1, ()))
    else
     if (v2 == (21 : Int)) = false then
      if (v2 == (22 : Int)) then
       let v49 := ((r9.1.1).tmod (11 : Int))
       some (((v2, (r3.1.1, (r4.1.1, (v49, ())))), ()), (r9.2.1, ()))
      else
       some (((v2, (r3.1.1, (r4.1.1, (r9.1.1, ())))), ()), (r9.2.1, ()))
     else
      let v50 := ((r9.1.1).tmod (11 : Int))
      some (((v2, (r3.1.1, (r4.1.1, (v50, ())))), ()), (r9.2.1, ()))
abbrev C_p : Con := ⟨P_m, R_p, F_p, false⟩
abbrev G_p : Env := [(53, C_c), (86, C_d), (165, C_o)]
theorem g_p : Qh Tryz.prog G_p := (Qa s_c (Qa s_d (Qa s_o Qd)))
theorem s_p : Qb Tryz.prog 142 C_p := fnC (L := []) hT g_p Tryz.f142 okP fun _ => by kernel_rfl
def F_q (x : denP P_m) : FO P_m R_p :=
 (F_c (x.1, (3 : Int), ())).bind fun r1 =>
 let v2 := (IntKind.i64.wrap ((1 : Int) + r1.1.1))
 (F_c (r1.2.1, (14 : Int), ())).bind fun r3 =>
 if (r3.1.1 == (0 : Int)) then
  (F_c (r3.2.1, (4 : Int), ())).bind fun r4 =>
  (F_c (r4.2.1, (9 : Int), ())).bind fun r5 =>
  (F_c (r5.2.1, (8 : Int), ())).bind fun r6 =>
  let v7 := (IntKind.i64.wrap ((56 : Int) + r6.1.1))
  (F_c (r6.2.1, (16 : Int), ())).bind fun r8 =>
  let v9 := (IntKind.i64.wrap ((40 : Int) + r8.1.1))
  (F_d (r8.2.1, [r5.1.1, v7, v9, (65535 : Int)], ())).bind fun r10 =>
  some ((((12 : Int), (v2, (r4.1.1, (r10.1.1, ())))), ()), (r10.2.1, ()))
 else
  if (r3.1.1 == (1 : Int)) then
   (F_c (r3.2.1, (4 : Int), ())).bind fun r11 =>
   (F_c (r11.2.1, (9 : Int), ())).bind fun r12 =>
   (F_c (r12.2.1, (8 : Int), ())).bind fun r13 =>
   let v14 := (IntKind.i64.wrap ((56 : Int) + r13.1.1))
   (F_c (r13.2.1, (16 : Int), ())).bind fun r15 =>
   let v16 := (IntKind.i64.wrap ((40 : Int) + r15.1.1))
   (F_d (r15.2.1, [r12.1.1, v14, v16, (65535 : Int)], ())).bind fun r17 =>
   some ((((12 : Int), (v2, (r11.1.1, (r17.1.1, ())))), ()), (r17.2.1, ()))
  else
   if (r3.1.1 == (2 : Int)) then
    (F_c (r3.2.1, (4 : Int), ())).bind fun r18 =>
    (F_c (r18.2.1, (9 : Int), ())).bind fun r19 =>
    (F_c (r19.2.1, (8 : Int), ())).bind fun r20 =>
    let v21 := (IntKind.i64.wrap ((56 : Int) + r20.1.1))
    (F_c (r20.2.1, (16 : Int), ())).bind fun r22 =>
    let v23 := (IntKind.i64.wrap ((40 : Int) + r22.1.1))
    (F_d (r22.2.1, [r19.1.1, v21, v23, (65535 : Int)], ())).bind fun r24 =>
    some ((((12 : Int), (v2, (r18.1.1, (r24.1.1, ())))), ()), (r24.2.1, ()))
   else
    if (r3.1.1 == (3 : Int)) then
     (F_c (r3.2.1, (11 : Int), ())).bind fun r25 =>
     let v26 := (IntKind.i64.wrap ((1 : Int) + r25.1.1))
     (F_c (r25.2.1, (4 : Int), ())).bind fun r27 =>
     (F_c (r27.2.1, (4 : Int), ())).bind fun r28 =>
     some (((v26, (v2, (r27.1.1, (r28.1.1, ())))), ()), (r28.2.1, ()))
    else
     if (r3.1.1 == (4 : Int)) then
      (F_c (r3.2.1, (4 : Int), ())).bind fun r29 =>
      (F_c (r29.2.1, (24 : Int), ())).bind fun r30 =>
      (F_c (r30.2.1, (16 : Int), ())).bind fun r31 =>
      let v32 := (IntKind.i64.wrap ((40 : Int) + r31.1.1))
      (F_c (r31.2.1, (6 : Int), ())).bind fun r33 =>
      let v34 := (IntKind.i64.wrap ((56 : Int) + r33.1.1))
      (F_d (r33.2.1, [r30.1.1, v32, v34], ())).bind fun r35 =>
      some ((((15 : Int), (v2, (r29.1.1, (r35.1.1, ())))), ()), (r35.2.1, ()))
     else
      if (r3.1.1 == (5 : Int)) then
       (F_c (r3.2.1, (4 : Int), ())).bind fun r36 =>
       (F_c (r36.2.1, (24 : Int), ())).bind fun r37 =>
       (F_c (r37.2.1, (16 : Int), ())).bind fun r38 =>
       let v39 := (IntKind.i64.wrap ((40 : Int) + r38.1.1))
       (F_c (r38.2.1, (6 : Int), ())).bind fun r40 =>
       let v41 := (IntKind.i64.wrap ((56 : Int) + r40.1.1))
       (F_d (r40.2.1, [r37.1.1, v39, v41], ())).bind fun r42 =>
       some ((((15 : Int), (v2, (r36.1.1, (r42.1.1, ())))), ()), (r42.2.1, ()))
      else
       if (r3.1.1 == (6 : Int)) then
        (F_c (r3.2.1, (4 : Int), ())).bind fun r43 =>
        (F_c (r43.2.1, (24 : Int), ())).bind fun r44 =>
        (F_c (r44.2.1, (16 : Int), ())).bind fun r45 =>
        let v46 := (IntKind.i64.wrap ((40 : Int) + r45.1.1))
        (F_c (r45.2.1, (6 : Int), ())).bind fun r47 =>
        let v48 := (IntKind.i64.wrap ((56 : Int) + r47.1.1))
        (F_d (r47.2.1, [r44.1.1, v46, v48], ())).bind fun r49 =>
        some ((((14 : Int), (v2, (r43.1.1, (r49.1.1, ())))), ()), (r49.2.1, ()))
       else
        if (r3.1.1 == (7 : Int)) then
         (F_c (r3.2.1, (4 : Int), ())).bind fun r50 =>
         (F_c (r50.2.1, (24 : Int), ())).bind fun r51 =>
         (F_c (r51.2.1, (16 : Int), ())).bind fun r52 =>
         let v53 := (IntKind.i64.wrap ((40 : Int) + r52.1.1))
         (F_c (r52.2.1, (6 : Int), ())).bind fun r54 =>
         let v55 := (IntKind.i64.wrap ((56 : Int) + r54.1.1))
         (F_d (r54.2.1, [r51.1.1, v53, v55], ())).bind fun r56 =>
         some ((((14 : Int), (v2, (r50.1.1, (r56.1.1, ())))), ()), (r56.2.1, ()))
        else
         if (r3.1.1 == (8 : Int)) then
          (F_d (r3.2.1, [(16 : Int), (17 : Int), (18 : Int)], ())).bind fun r57 =>
          (F_c (r57.2.1, (4 : Int), ())).bind fun r58 =>
          (F_d (r58.2.1, [(1 : Int), (2 : Int), (65535 : Int), (65533 : Int)], ())).bind fun r59 =>
          some (((r57.1.1, (v2, (r58.1.1, (r59.1.1, ())))), ()), (r59.2.1, ()))
         else
          if (r3.1.1 == (9 : Int)) then
           (F_d (r3.2.1, [(0 : Int), (1 : Int), (7 : Int), (9 : Int), (10 : Int), (5 : Int), (6 : Int)], ())).bind fun r60 =>
           some ((((22 : Int), ((0 : Int), (v2, (r60.1.1, ())))), ()), (r60.2.1, ()))
          else
           if (r3.1.1 == (10 : Int)) then
            (F_c (r3.2.1, (11 : Int), ())).bind fun r61 =>
            some ((((21 : Int), (v2, ((0 : Int), (r61.1.1, ())))), ()), (r61.2.1, ()))
           else
            if (r3.1.1 == (11 : Int)) then
             (F_d (r3.2.1, [(0 : Int), (5 : Int)], ())).bind fun r62 =>
             (F_d (r62.2.1, [(65534 : Int), (65530 : Int), (2 : Int)], ())).bind fun r63 =>
             some ((((19 : Int), (r62.1.1, ((0 : Int), (r63.1.1, ())))), ()), (r63.2.1, ()))
            else
             (F_p (r3.2.1, ())).bind fun r64 =>
             some ((r64.1.1, ()), (r64.2.1, ()))
abbrev C_q : Con := ⟨P_m, R_p, F_q, false⟩
abbrev G_q : Env := [(53, C_c), (86, C_d), (142, C_p)]
theorem g_q : Qh Tryz.prog G_q := (Qa s_c (Qa s_d (Qa s_p Qd)))
theorem s_q : Qb Tryz.prog 108 C_q := fnC (L := []) hT g_q Tryz.f108 okP fun _ => by kernel_rfl
abbrev P_r : List PK := [.val Y162]
def F_r (x : denP P_r) : FO P_r R_c :=
 (F_e (x.1.1, (1 : Int), (26 : Int), ())).bind fun r1 =>
 if (!r1.1.1) = false then
  (F_e (x.1.2.1, (0 : Int), (15 : Int), ())).bind fun r2 =>
  if (!r2.1.1) = false then
   (F_e (x.1.2.2.1, (0 : Int), (15 : Int), ())).bind fun r3 =>
   if (!r3.1.1) = false then
    (F_e (x.1.2.2.2.1, (0 : Int), (65535 : Int), ())).bind fun r4 =>
    if (!r4.1.1) then
     some (((3 : Int), ()), ())
    else
     (F_o (x.1.1, ())).bind fun r5 =>
     if r5.1.1 = true then
      if (x.1.2.1 != (0 : Int)) = false then
       if r5.1.2.1 = true then
        if (x.1.2.2.1 != (0 : Int)) = false then
         if r5.1.2.2.1 = true then
          if (x.1.2.2.2.1 != (0 : Int)) = false then
           if (leI x.1.1 (11 : Int)) = true then
            if (ltI (15 : Int) x.1.2.2.2.1) = false then
             if (x.1.1 == (21 : Int)) = false then
              if (x.1.1 == (22 : Int)) = true then
               if (ltI (10 : Int) x.1.2.2.2.1) then
                some (((1 : Int), ()), ())
               else
                some (((0 : Int), ()), ())
              else
               some (((0 : Int), ()), ())
             else
              if (ltI (10 : Int) x.1.2.2.2.1) then
               some (((1 : Int), ()), ())
              else
               some (((0 : Int), ()), ())
            else
             some (((1 : Int), ()), ())
           else
            if (x.1.1 == (21 : Int)) = false then
             if (x.1.1 == (22 : Int)) = true then
              if (ltI (10 : Int) x.1.2.2.2.1) then
               some (((1 : Int), ()), ())
              else
               some (((0 : Int), ()), ())
             else
              some (((0 : Int), ()), ())
            else
             if (ltI (10 : Int) x.1.2.2.2.1) then
              some (((1 : Int), ()), ())
             else
              some (((0 : Int), ()), ())
          else
           some (((1 : Int), ()), ())
         else
          if (leI x.1.1 (11 : Int)) = true then
           if (ltI (15 : Int) x.1.2.2.2.1) = false then
            if (x.1.1 == (21 : Int)) = false then
             if (x.1.1 == (22 : Int)) = true then
              if (ltI (10 : Int) x.1.2.2.2.1) then
               some (((1 : Int), ()), ())
              else
               some (((0 : Int), ()), ())
             else
              some (((0 : Int), ()), ())
            else
             if (ltI (10 : Int) x.1.2.2.2.1) then
              some (((1 : Int), ()), ())
             else
              some (((0 : Int), ()), ())
           else
            some (((1 : Int), ()), ())
          else
           if (x.1.1 == (21 : Int)) = false then
            if (x.1.1 == (22 : Int)) = true then
             if (ltI (10 : Int) x.1.2.2.2.1) then
              some (((1 : Int), ()), ())
             else
              some (((0 : Int), ()), ())
            else
             some (((0 : Int), ()), ())
           else
            if (ltI (10 : Int) x.1.2.2.2.1) then
             some (((1 : Int), ()), ())
            else
             some (((0 : Int), ()), ())
        else
         some (((1 : Int), ()), ())
       else
        if r5.1.2.2.1 = true then
         if (x.1.2.2.2.1 != (0 : Int)) = false then
          if (leI x.1.1 (11 : Int)) = true then
           if (ltI (15 : Int) x.1.2.2.2.1) = false then
            if (x.1.1 == (21 : Int)) = false then
             if (x.1.1 == (22 : Int)) = true then
              if (ltI (10 : Int) x.1.2.2.2.1) then
               some (((1 : Int), ()), ())
              else
               some (((0 : Int), ()), ())
             else
              some (((0 : Int), ()), ())
            else
             if (ltI (10 : Int) x.1.2.2.2.1) then
              some (((1 : Int), ()), ())
             else
              some (((0 : Int), ()), ())
           else
            some (((1 : Int), ()), ())
          else
           if (x.1.1 == (21 : Int)) = false then
            if (x.1.1 == (22 : Int)) = true then
             if (ltI (10 : Int) x.1.2.2.2.1) then
              some (((1 : Int), ()), ())
             else
              some (((0 : Int), ()), ())
            else
             some (((0 : Int), ()), ())
           else
            if (ltI (10 : Int) x.1.2.2.2.1) then
             some (((1 : Int), ()), ())
            else
             some (((0 : Int), ()), ())
         else
          some (((1 : Int), ()), ())
        else
         if (leI x.1.1 (11 : Int)) = true then
          if (ltI (15 : Int) x.1.2.2.2.1) = false then
           if (x.1.1 == (21 : Int)) = false then
            if (x.1.1 == (22 : Int)) = true then
             if (ltI (10 : Int) x.1.2.2.2.1) then
              some (((1 : Int), ()), ())
             else
              some (((0 : Int), ()), ())
            else
             some (((0 : Int), ()), ())
           else
            if (ltI (10 : Int) x.1.2.2.2.1) then
             some (((1 : Int), ()), ())
            else
             some (((0 : Int), ()), ())
          else
           some (((1 : Int), ()), ())
         else
          if (x.1.1 == (21 : Int)) = false then
           if (x.1.1 == (22 : Int)) = true then
            if (ltI (10 : Int) x.1.2.2.2.1) then
             some (((1 : Int), ()), ())
            else
             some (((0 : Int), ()), ())
           else
            some (((0 : Int), ()), ())
          else
           if (ltI (10 : Int) x.1.2.2.2.1) then
            some (((1 : Int), ()), ())
           else
            some (((0 : Int), ()), ())
      else
       some (((1 : Int), ()), ())
     else
      if r5.1.2.1 = true then
       if (x.1.2.2.1 != (0 : Int)) = false then
        if r5.1.2.2.1 = true then
         if (x.1.2.2.2.1 != (0 : Int)) = false then
          if (leI x.1.1 (11 : Int)) = true then
           if (ltI (15 : Int) x.1.2.2.2.1) = false then
            if (x.1.1 == (21 : Int)) = false then
             if (x.1.1 == (22 : Int)) = true then
              if (ltI (10 : Int) x.1.2.2.2.1) then
               some (((1 : Int), ()), ())
              else
               some (((0 : Int), ()), ())
             else
              some (((0 : Int), ()), ())
            else
             if (ltI (10 : Int) x.1.2.2.2.1) then
              some (((1 : Int), ()), ())
             else
              some (((0 : Int), ()), ())
           else
            some (((1 : Int), ()), ())
          else
           if (x.1.1 == (21 : Int)) = false then
            if (x.1.1 == (22 : Int)) = true then
             if (ltI (10 : Int) x.1.2.2.2.1) then
              some (((1 : Int), ()), ())
             else
              some (((0 : Int), ()), ())
            else
             some (((0 : Int), ()), ())
           else
            if (ltI (10 : Int) x.1.2.2.2.1) then
             some (((1 : Int), ()), ())
            else
             some (((0 : Int), ()), ())
         else
          some (((1 : Int), ()), ())
        else
         if (leI x.1.1 (11 : Int)) = true then
          if (ltI (15 : Int) x.1.2.2.2.1) = false then
           if (x.1.1 == (21 : Int)) = false then
            if (x.1.1 == (22 : Int)) = true then
             if (ltI (10 : Int) x.1.2.2.2.1) then
              some (((1 : Int), ()), ())
             else
              some (((0 : Int), ()), ())
            else
             some (((0 : Int), ()), ())
           else
            if (ltI (10 : Int) x.1.2.2.2.1) then
             some (((1 : Int), ()), ())
            else
             some (((0 : Int), ()), ())
          else
           some (((1 : Int), ()), ())
         else
          if (x.1.1 == (21 : Int)) = false then
           if (x.1.1 == (22 : Int)) = true then
            if (ltI (10 : Int) x.1.2.2.2.1) then
             some (((1 : Int), ()), ())
            else
             some (((0 : Int), ()), ())
           else
            some (((0 : Int), ()), ())
          else
           if (ltI (10 : Int) x.1.2.2.2.1) then
            some (((1 : Int), ()), ())
           else
            some (((0 : Int), ()), ())
       else
        some (((1 : Int), ()), ())
      else
       if r5.1.2.2.1 = true then
        if (x.1.2.2.2.1 != (0 : Int)) = false then
         if (leI x.1.1 (11 : Int)) = true then
          if (ltI (15 : Int) x.1.2.2.2.1) = false then
           if (x.1.1 == (21 : Int)) = false then
            if (x.1.1 == (22 : Int)) = true then
             if (ltI (10 : Int) x.1.2.2.2.1) then
              some (((1 : Int), ()), ())
             else
              some (((0 : Int), ()), ())
            else
             some (((0 : Int), ()), ())
           else
            if (ltI (10 : Int) x.1.2.2.2.1) then
             some (((1 : Int), ()), ())
            else
             some (((0 : Int), ()), ())
          else
           some (((1 : Int), ()), ())
         else
          if (x.1.1 == (21 : Int)) = false then
           if (x.1.1 == (22 : Int)) = true then
            if (ltI (10 : Int) x.1.2.2.2.1) then
             some (((1 : Int), ()), ())
            else
             some (((0 : Int), ()), ())
           else
            some (((0 : Int), ()), ())
          else
           if (ltI (10 : Int) x.1.2.2.2.1) then
            some (((1 : Int), ()), ())
           else
            some (((0 : Int), ()), ())
        else
         some (((1 : Int), ()), ())
       else
        if (leI x.1.1 (11 : Int)) = true then
         if (ltI (15 : Int) x.1.2.2.2.1) = false then
          if (x.1.1 == (21 : Int)) = false then
           if (x.1.1 == (22 : Int)) = true then
            if (ltI (10 : Int) x.1.2.2.2.1) then
             some (((1 : Int), ()), ())
            else
             some (((0 : Int), ()), ())
           else
            some (((0 : Int), ()), ())
          else
           if (ltI (10 : Int) x.1.2.2.2.1) then
            some (((1 : Int), ()), ())
           else
            some (((0 : Int), ()), ())
         else
          some (((1 : Int), ()), ())
        else
         if (x.1.1 == (21 : Int)) = false then
          if (x.1.1 == (22 : Int)) = true then
           if (ltI (10 : Int) x.1.2.2.2.1) then
            some (((1 : Int), ()), ())
           else
            some (((0 : Int), ()), ())
          else
           some (((0 : Int), ()), ())
         else
          if (ltI (10 : Int) x.1.2.2.2.1) then
           some (((1 : Int), ()), ())
          else
           some (((0 : Int), ()), ())
   else
    some (((3 : Int), ()), ())
  else
   some (((3 : Int), ()), ())
 else
  some (((3 : Int), ()), ())
abbrev C_r : Con := ⟨P_r, R_c, F_r, false⟩
abbrev G_r : Env := [(111, C_e), (165, C_o)]
theorem g_r : Qh Tryz.prog G_r := (Qa s_e (Qa s_o Qd))
theorem s_r : Qb Tryz.prog 141 C_r := fnC (L := []) hT g_r Tryz.f141 okP fun _ => by kernel_rfl
abbrev R_s : List VK := [.s (.dat Y70)]
def F_s (x : denP P_r) : FO P_r R_s :=
 (F_r (x.1, ())).bind fun r1 =>
 if (r1.1.1 != (0 : Int)) then
  some (((r1.1.1, ((0 : Int), ())), ()), ())
 else
  let v2 := (IntKind.i64.wrap (x.1.1 * 2 ^ 24))
  let v3 := (IntKind.i64.wrap (x.1.2.1 * 2 ^ 20))
  let v4 := (IntKind.i64.wrap (v2 + v3))
  let v5 := (IntKind.i64.wrap (x.1.2.2.1 * 2 ^ 16))
  let v6 := (IntKind.i64.wrap (v4 + v5))
  let v7 := (IntKind.i64.wrap (v6 + x.1.2.2.2.1))
  some ((((0 : Int), (v7, ())), ()), ())
abbrev C_s : Con := ⟨P_r, R_s, F_s, false⟩
abbrev G_s : Env := [(141, C_r)]
theorem g_s : Qh Tryz.prog G_s := (Qa s_r Qd)
theorem s_s : Qb Tryz.prog 107 C_s := fnC (L := []) hT g_s Tryz.f107 okP fun _ => by kernel_rfl
def F_t (x : denP P_c) : FO P_c R_a :=
 (F_c (x.1, x.2.1, ())).bind fun r1 =>
 some (((r1.1.1 == (0 : Int)), ()), (r1.2.1, ()))
abbrev C_t : Con := ⟨P_c, R_a, F_t, false⟩
theorem g_t : Qh Tryz.prog G_d := (Qa s_c Qd)
theorem s_t : Qb Tryz.prog 109 C_t := fnC (L := []) hT g_t Tryz.f109 okP fun _ => by kernel_rfl
def F_u (x : denP P_m) : FO P_m R_c :=
 (F_c (x.1, (90 : Int), ())).bind fun r1 =>
 (F_c (r1.2.1, (9 : Int), ())).bind fun r2 =>
 (F_c (r2.2.1, (9 : Int), ())).bind fun r3 =>
 let v4 := (IntKind.i64.wrap ((4294967295 : Int) - r3.1.1))
 (F_c (r3.2.1, (60000 : Int), ())).bind fun r5 =>
 let v6 := (IntKind.i64.wrap (r5.1.1 * (70000 : Int)))
 (F_d (r5.2.1, [r1.1.1, r2.1.1, v4, (2147483648 : Int), (2147483647 : Int), (0 : Int), v6], ())).bind fun r7 =>
 some ((r7.1.1, ()), (r7.2.1, ()))
abbrev C_u : Con := ⟨P_m, R_c, F_u, false⟩
abbrev G_u : Env := [(53, C_c), (86, C_d)]
theorem g_u : Qh Tryz.prog G_u := (Qa s_c (Qa s_d Qd))
theorem s_u : Qb Tryz.prog 110 C_u := fnC (L := []) hT g_u Tryz.f110 okP fun _ => by kernel_rfl
abbrev R_v : List VK := [.s (.own 2 YI)]
abbrev i_v_2 : Shp := { slots := [(0, .s (.ptr 9000000 0)), (1, .s (.dat YI)), (5, .s (.own 2 YI))], boxes := [(9000000, [.dat Y22, .dat YI])], rows := [] }
abbrev o_v_2 : List (Ex × Shp) := [(.exit 0, { slots := [(5, .s (.own 2 YI))], boxes := [(9000000, [.dat Y22, .dat YI])], rows := [] })]
def l_v_2 (rec : i_v_2.den → Option (denO o_v_2)) (u : i_v_2.den) : Option (denO o_v_2) :=
 if (ltI (0 : Int) u.1.2.1) then
  (F_q (u.2.1.1, ())).bind fun r5 =>
  (F_s (r5.1.1, ())).bind fun r6 =>
  (F_t (r5.2.1, (20 : Int), ())).bind fun r7 =>
  if r7.1.1 then
   (F_u (r7.2.1, ())).bind fun r8 =>
   if (u.1.2.2.1.length + [r8.1.1].length) * 8 ≤ 140737488355328 then
    let v9 := (u.1.2.2.1 ++ [r8.1.1])
    let v10 := (IntKind.i64.wrap (u.1.2.1 - (1 : Int)))
    rec (((), (v10, (v9, ()))), ((r8.2.1, ()), ()))
   else none
  else
   if (u.1.2.2.1.length + [r6.1.1.2.1].length) * 8 ≤ 140737488355328 then
    let v11 := (u.1.2.2.1 ++ [r6.1.1.2.1])
    let v12 := (IntKind.i64.wrap (u.1.2.1 - (1 : Int)))
    rec (((), (v12, (v11, ()))), ((r7.2.1, ()), ()))
   else none
 else
  some (.inl ((u.1.2.2.1, ()), ((u.2.1.1, ()), ())))
def L_v_2 (x : i_v_2.den) : Option (denO o_v_2) := Qc l_v_2 lots x
def F_v (x : denP P_c) : FO P_c R_v :=
 (L_v_2 (((), (x.2.1, (([] : List (den YI)), ()))), ((x.1, ()), ()))).bind fun z13 =>
 match z13 with
 | .inl x14 =>
  some ((x14.1.1, ()), (x14.2.1.1, ()))
 | .inr z13_ =>
  none
abbrev C_v : Con := ⟨P_c, R_v, F_v, false⟩
abbrev G_v : Env := [(107, C_s), (108, C_q), (109, C_t), (110, C_u)]
theorem g_v : Qh Tryz.prog G_v := (Qa s_s (Qa s_q (Qa s_t (Qa s_u Qd))))
abbrev c_v_2 : Cut := ⟨i_v_2, o_v_2, fun x => Qc l_v_2 lots x⟩
theorem k_v_2 : Qz Tryz.prog 25 (.loop (nav Tryz.f83 [1, 1, 0, 0, 0])) c_v_2 :=
  Qj (L := []) hT g_v (fun _ _ => by kernel_rfl) okP _
theorem r_v (x) : QL T G_v [(2, c_v_2)] Tryz.f83 C_v.ps C_v.rs x = C_v.F x := by kernel_rfl
theorem s_v : Qb Tryz.prog 83 C_v := fnC (L := [(2, c_v_2)]) hT g_v Tryz.f83 (okS okP (okS okP (okS (okB (okU k_v_2)) okP))) r_v
abbrev P_w : List PK := [.box [.dat Y22, .dat YI] [.dat Y22, .dat YI], .val Y28]
abbrev R_w : List VK := [.s (.own 32 Y32)]
abbrev i_w_3 : Shp := { slots := [(0, .s (.ptr 9000000 0)), (3, .s (.ptr 3 0)), (5, .s (.own 32 Y32)), (6, .s (.dat YI))], boxes := [(3, [.dat Y24, .dat Y25, .dat Y26, .dat Y26]), (9000000, [.dat Y22, .dat YI])], rows := [] }
abbrev o_w_3 : List (Ex × Shp) := [(.exit 0, { slots := [(5, .s (.own 32 Y32))], boxes := [(9000000, [.dat Y22, .dat YI])], rows := [] })]
def l_w_3 (rec : i_w_3.den → Option (denO o_w_3)) (u : i_w_3.den) : Option (denO o_w_3) :=
 let v4 := ((u.2.1.1.1.length : Nat) : Int)
 if (ltI u.1.2.2.2.1 v4) then
  if 0 ≤ u.1.2.2.2.1 then
   ((u.2.1.1.1)[(u.1.2.2.2.1).toNat]?).bind fun y5 =>
   let v6 := ((y5.length : Nat) : Int)
   let v7 := (IntKind.i64.wrap (v6 * (8 : Int)))
   let v8 := (IntKind.i64.wrap (v7 + (1 : Int)))
   (F_c (u.2.1.2.1, v8, ())).bind fun r9 =>
   (F_v (r9.2.1, r9.1.1, ())).bind fun r10 =>
   if (u.1.2.2.1.length + [r10.1.1].length) * 24 ≤ 140737488355328 then
    let v11 := (u.1.2.2.1 ++ [r10.1.1])
    let v12 := (IntKind.i64.wrap (u.1.2.2.2.1 + (1 : Int)))
    rec (((), ((), (v11, (v12, ())))), ((u.2.1.1, (r10.2.1, ())), ()))
   else none
  else none
 else
  some (.inl ((u.1.2.2.1, ()), ((u.2.1.2.1, ()), ())))
def L_w_3 (x : i_w_3.den) : Option (denO o_w_3) := Qc l_w_3 lots x
def F_w (x : denP P_w) : FO P_w R_w :=
 (L_w_3 (((), ((), (([] : List (den Y32)), ((0 : Int), ())))), (((x.2.1.1, (x.2.1.2.1, (x.2.1.2.2.1, (x.2.1.2.2.2.1, ())))), (x.1, ())), ()))).bind fun z13 =>
 match z13 with
 | .inl x14 =>
  some ((x14.1.1, ()), (x14.2.1.1, ()))
 | .inr z13_ =>
  none
abbrev C_w : Con := ⟨P_w, R_w, F_w, false⟩
abbrev G_w : Env := [(53, C_c), (83, C_v)]
theorem g_w : Qh Tryz.prog G_w := (Qa s_c (Qa s_v Qd))
abbrev c_w_3 : Cut := ⟨i_w_3, o_w_3, fun x => Qc l_w_3 lots x⟩
theorem k_w_3 : Qz Tryz.prog 31 (.loop (nav Tryz.f52 [1, 1, 0, 1, 0, 0])) c_w_3 :=
  Qj (L := []) hT g_w (fun _ _ => by kernel_rfl) okP _
theorem r_w (x) : QL T G_w [(3, c_w_3)] Tryz.f52 C_w.ps C_w.rs x = C_w.F x := by kernel_rfl
theorem s_w : Qb Tryz.prog 52 C_w := fnC (L := [(3, c_w_3)]) hT g_w Tryz.f52 (okS okP (okS okP (okS (okS okP (okB (okU k_w_3))) okP))) r_w
abbrev P_x : List PK := [.val Y22, .val Y28]
abbrev R_x : List VK := [.s (.own 32 Y32), .s (.own 32 Y32)]
abbrev i_x_5 : Shp := { slots := [(3, .s (.ptr 3 0)), (6, .s (.ptr 1033500 0)), (7, .s (.own 32 Y32)), (8, .s (.own 32 Y32)), (9, .s (.dat YI))], boxes := [(3, [.dat Y24, .dat Y25, .dat Y26, .dat Y26]), (1033500, [.dat Y22, .dat YI])], rows := [] }
abbrev o_x_5 : List (Ex × Shp) := [(.exit 0, { slots := [(7, .s (.own 32 Y32)), (8, .s (.own 32 Y32))], boxes := [], rows := [] })]
def l_x_5 (rec : i_x_5.den → Option (denO o_x_5)) (u : i_x_5.den) : Option (denO o_x_5) :=
 let v5 := ((u.2.1.1.1.length : Nat) : Int)
 if (ltI u.1.2.2.2.2.1 v5) then
  (F_c (u.2.1.2.1, (4 : Int), ())).bind fun r6 =>
  if 0 ≤ (0 : Int) ∧ (0 : Int) ≤ r6.1.1 ∧ r6.1.1 ≤ (([(5 : Int), (6 : Int), (7 : Int)].length : Nat) : Int) then
   if (u.1.2.2.2.1.length + [(([(5 : Int), (6 : Int), (7 : Int)].drop (0 + ((0 : Int)).toNat)).take ((r6.1.1).toNat - ((0 : Int)).toNat))].length) * 24 ≤ 140737488355328 then
    let v7 := (u.1.2.2.2.1 ++ [(([(5 : Int), (6 : Int), (7 : Int)].drop (0 + ((0 : Int)).toNat)).take ((r6.1.1).toNat - ((0 : Int)).toNat))])
    let v8 := (IntKind.i64.wrap (u.1.2.2.2.2.1 + (1 : Int)))
    rec (((), ((), (u.1.2.2.1, (v7, (v8, ()))))), ((u.2.1.1, (r6.2.1, ())), ()))
   else none
  else none
 else
  some (.inl ((u.1.2.2.1, (u.1.2.2.2.1, ())), ((), ())))
def L_x_5 (x : i_x_5.den) : Option (denO o_x_5) := Qc l_x_5 lots x
def F_x (x : denP P_x) : FO P_x R_x :=
 if ([(3 : Int)].length + x.1.length) * 1 ≤ 140737488355328 then
  let v1 := ([(3 : Int)] ++ x.1)
  (F_b (v1, ())).bind fun r2 =>
  (F_w ((r2.1.1.1, (r2.1.1.2.1, ())), x.2.1, ())).bind fun r3 =>
  (L_x_5 (((), ((), (r3.1.1, (([] : List (den Y32)), ((0 : Int), ()))))), (((x.2.1.1, (x.2.1.2.1, (x.2.1.2.2.1, (x.2.1.2.2.2.1, ())))), (r3.2.1, ())), ()))).bind fun z9 =>
  match z9 with
  | .inl x10 =>
   some ((x10.1.1, x10.1.2.1, ()), ())
  | .inr z9_ =>
   none
 else none
abbrev C_x : Con := ⟨P_x, R_x, F_x, false⟩
abbrev G_x : Env := [(51, C_b), (52, C_w), (53, C_c)]
theorem g_x : Qh Tryz.prog G_x := (Qa s_b (Qa s_w (Qa s_c Qd)))
abbrev c_x_5 : Cut := ⟨i_x_5, o_x_5, fun x => Qc l_x_5 lots x⟩
theorem k_x_5 : Qz Tryz.prog 34 (.loop (nav Tryz.f18 [1, 1, 1, 1, 0, 1, 0, 0])) c_x_5 :=
  Qj (L := []) hT g_x (fun _ _ => by kernel_rfl) okP _
theorem r_x (x) : QL T G_x [(5, c_x_5)] Tryz.f18 C_x.ps C_x.rs x = C_x.F x := by kernel_rfl
theorem s_x : Qb Tryz.prog 18 C_x := fnC (L := [(5, c_x_5)]) hT g_x Tryz.f18 (okS okP (okS okP (okS okP (okS okP (okS (okS okP (okB (okU k_x_5))) okP))))) r_x
abbrev R_y : List VK := [.s (.dat Y28), .s (.own 32 Y32), .s (.own 32 Y32)]
def F_y (x : denP P_a) : FO P_a R_y :=
 (F_n (x.1, ())).bind fun r1 =>
 (F_x (x.1, r1.1.1, ())).bind fun r2 =>
 some ((r1.1.1, r2.1.1, r2.1.2.1, ()), ())
abbrev C_y : Con := ⟨P_a, R_y, F_y, false⟩
abbrev G_y : Env := [(18, C_x), (22, C_n)]
theorem g_y : Qh Tryz.prog G_y := (Qa s_x (Qa s_n Qd))
theorem s_y : Qb Tryz.prog 7 C_y := fnC (L := []) hT g_y Tryz.f7 okP fun _ => by kernel_rfl
def F_z (x : denP P_e) : FO P_e R_a :=
 if (leI x.2.1 x.1) = true then
  some (((leI x.1 x.2.2.1), ()), ())
 else
  some ((false, ()), ())
abbrev C_z : Con := ⟨P_e, R_a, F_z, false⟩
theorem s_z : Qb Tryz.prog 27 C_z := fnC (L := []) hT g_a Tryz.f27 okP fun _ => by kernel_rfl
abbrev i_aa_10 : Shp := { slots := [(3, .s (.mp)), (4, .s (.dat .bool)), (20, .s (.dat Y24)), (21, .s (.dat YI)), (22, .s (.dat YI)), (30, .s (.dat Y32)), (31, .s (.dat YI)), (32, .s (.dat YI))], boxes := [], rows := [] }
abbrev o_aa_10 : List (Ex × Shp) := [(.exit 2, { slots := [(3, .s (.mp)), (4, .s (.dat .bool)), (20, .s (.dat Y24)), (21, .s (.dat YI)), (22, .s (.dat YI))], boxes := [], rows := [] }), (.ret, { slots := [(2, .s (.dat YI))], boxes := [], rows := [] })]
def l_aa_10 (rec : i_aa_10.den → Option (denO o_aa_10)) (u : i_aa_10.den) : Option (denO o_aa_10) :=
 if (ltI u.1.2.2.2.2.2.2.2.1 u.1.2.2.2.2.2.2.1) then
  if 0 ≤ u.1.2.2.2.2.2.2.2.1 then
   ((u.1.2.2.2.2.2.1)[(u.1.2.2.2.2.2.2.2.1).toNat]?).bind fun y17 =>
   (F_z (y17, (0 : Int), (23 : Int), ())).bind fun r18 =>
   if (!r18.1.1) then
    some (.inr (.inl (((3 : Int), ()), ((), ()))))
   else
    if u.1.2.1 = false then
     let v19 := (IntKind.i64.wrap (u.1.2.2.2.2.2.2.2.1 + (1 : Int)))
     rec (((setM u.1.1 y17 true), ((getM u.1.1 y17), (u.1.2.2.1, (u.1.2.2.2.1, (u.1.2.2.2.2.1, (u.1.2.2.2.2.2.1, (u.1.2.2.2.2.2.2.1, (v19, ())))))))), ((), ()))
    else
     let v20 := (IntKind.i64.wrap (u.1.2.2.2.2.2.2.2.1 + (1 : Int)))
     rec (((setM u.1.1 y17 true), (true, (u.1.2.2.1, (u.1.2.2.2.1, (u.1.2.2.2.2.1, (u.1.2.2.2.2.2.1, (u.1.2.2.2.2.2.2.1, (v20, ())))))))), ((), ()))
  else none
 else
  some (.inl ((u.1.1, (u.1.2.1, (u.1.2.2.1, (u.1.2.2.2.1, (u.1.2.2.2.2.1, ()))))), ((), ())))
def L_aa_10 (x : i_aa_10.den) : Option (denO o_aa_10) := Qc l_aa_10 lots x
abbrev i_aa_5 : Shp := { slots := [(3, .s (.mp)), (4, .s (.dat .bool)), (20, .s (.dat Y24)), (21, .s (.dat YI)), (22, .s (.dat YI))], boxes := [], rows := [] }
abbrev o_aa_5 : List (Ex × Shp) := [(.exit 0, { slots := [(4, .s (.dat .bool))], boxes := [], rows := [] }), (.ret, { slots := [(2, .s (.dat YI))], boxes := [], rows := [] })]
def l_aa_5 (rec : i_aa_5.den → Option (denO o_aa_5)) (u : i_aa_5.den) : Option (denO o_aa_5) :=
 if (ltI u.1.2.2.2.2.1 u.1.2.2.2.1) then
  if 0 ≤ u.1.2.2.2.2.1 then
   ((u.1.2.2.1)[(u.1.2.2.2.2.1).toNat]?).bind fun y11 =>
   let v12 := ((y11.length : Nat) : Int)
   (F_z (v12, (1 : Int), (5 : Int), ())).bind fun r13 =>
   if (!r13.1.1) then
    some (.inr (.inl (((2 : Int), ()), ((), ()))))
   else
    let v14 := ((y11.length : Nat) : Int)
    (L_aa_10 ((u.1.1, (u.1.2.1, (u.1.2.2.1, (u.1.2.2.2.1, (u.1.2.2.2.2.1, (y11, (v14, ((0 : Int), ())))))))), ((), ()))).bind fun z21 =>
    match z21 with
    | .inl x22 =>
     let v23 := (IntKind.i64.wrap (x22.1.2.2.2.2.1 + (1 : Int)))
     rec ((x22.1.1, (x22.1.2.1, (x22.1.2.2.1, (x22.1.2.2.2.1, (v23, ()))))), ((), ()))
    | .inr z21_ =>
     match z21_ with
     | .inl x24 =>
      some (.inr (.inl ((x24.1.1, ()), ((), ()))))
     | .inr z21__ =>
      none
  else none
 else
  some (.inl ((u.1.2.1, ()), ((), ())))
def L_aa_5 (x : i_aa_5.den) : Option (denO o_aa_5) := Qc l_aa_5 lots x
def F_aa (x : denP P_g) : FO P_g R_c :=
 let v1 := ((x.1.1.length : Nat) : Int)
 (F_z (v1, (1 : Int), (3 : Int), ())).bind fun r2 =>
 if (!r2.1.1) then
  some (((2 : Int), ()), ())
 else
  let v3 := ((x.1.1.length : Nat) : Int)
  (L_aa_5 ((([] : List (Int × Bool)), (false, (x.1.1, (v3, ((0 : Int), ()))))), ((), ()))).bind fun z25 =>
  match z25 with
  | .inl x26 =>
   if x26.1.1 then
    some (((6 : Int), ()), ())
   else
    some (((0 : Int), ()), ())
  | .inr z25_ =>
   match z25_ with
   | .inl x27 =>
    some ((x27.1.1, ()), ())
   | .inr z25__ =>
    none
abbrev C_aa : Con := ⟨P_g, R_c, F_aa, false⟩
abbrev G_aa : Env := [(27, C_z)]
theorem g_aa : Qh Tryz.prog G_aa := (Qa s_z Qd)
abbrev c_aa_10 : Cut := ⟨i_aa_10, o_aa_10, fun x => Qc l_aa_10 lots x⟩
theorem k_aa_10 : Qz Tryz.prog 50 (.loop (nav Tryz.f67 [1, 1, 1, 0, 1, 0, 0, 1, 1, 0, 0, 1, 1, 1, 0, 0])) c_aa_10 :=
  Qj (L := []) hT g_aa (fun _ _ => by kernel_rfl) okP _
abbrev c_aa_5 : Cut := ⟨i_aa_5, o_aa_5, fun x => Qc l_aa_5 lots x⟩
theorem t_aa_5 (rec x) : run T G_aa [(10, c_aa_10)] (nav Tryz.f67 [1, 1, 1, 0, 1, 0, 0]) (mk 50 i_aa_5 x) (QeL i_aa_5 o_aa_5 rec) = l_aa_5 rec x := by kernel_rfl
theorem k_aa_5 : Qz Tryz.prog 50 (.loop (nav Tryz.f67 [1, 1, 1, 0, 1, 0, 0])) c_aa_5 :=
  Qj (L := [(10, c_aa_10)]) hT g_aa t_aa_5 (okS okP (okS okP (okS (okB (okS okP (okS okP (okS okP (okB (okU k_aa_10)))))) okP))) _
theorem r_aa (x) : QL T G_aa [(10, c_aa_10), (5, c_aa_5)] Tryz.f67 C_aa.ps C_aa.rs x = C_aa.F x := by kernel_rfl
theorem s_aa : Qb Tryz.prog 67 C_aa := fnC (L := [(10, c_aa_10), (5, c_aa_5)]) hT g_aa Tryz.f67 (okS okP (okS okP (okS okP (okS (okS okP (okB (okU k_aa_5))) okP)))) r_aa
def F_ab (x : denP P_h) : FO P_h R_a :=
 let v1 := ((x.1.1.length : Nat) : Int)
 let v2 := (IntKind.i64.wrap (v1 - (1 : Int)))
 (F_z (x.2.1, (0 : Int), v2, ())).bind fun r3 =>
 some ((r3.1.1, ()), ())
abbrev C_ab : Con := ⟨P_h, R_a, F_ab, false⟩
theorem g_ab : Qh Tryz.prog G_aa := (Qa s_z Qd)
theorem s_ab : Qb Tryz.prog 33 C_ab := fnC (L := []) hT g_ab Tryz.f33 okP fun _ => by kernel_rfl
def F_ac (x : denP P_i) : FO P_i R_c :=
 (F_ab (x.1, x.2.1, ())).bind fun r1 =>
 if (!r1.1.1) = false then
  (F_ab (x.1, x.2.2.1, ())).bind fun r2 =>
  if (!r2.1.1) then
   some (((4 : Int), ()), ())
  else
   if (x.2.1 == x.2.2.1) then
    some (((1 : Int), ()), ())
   else
    some (((0 : Int), ()), ())
 else
  some (((4 : Int), ()), ())
abbrev C_ac : Con := ⟨P_i, R_c, F_ac, false⟩
abbrev G_ac : Env := [(33, C_ab)]
theorem g_ac : Qh Tryz.prog G_ac := (Qa s_ab Qd)
theorem s_ac : Qb Tryz.prog 95 C_ac := fnC (L := []) hT g_ac Tryz.f95 okP fun _ => by kernel_rfl
abbrev i_ad_2 : Shp := { slots := [(0, .s (.dat Y32)), (1, .s (.dat YI)), (7, .s (.dat YI)), (8, .s (.dat YI))], boxes := [], rows := [] }
def l_ad_2 (rec : i_ad_2.den → Option (denO o_j_2)) (u : i_ad_2.den) : Option (denO o_j_2) :=
 if (ltI u.1.2.2.2.1 u.1.2.2.1) then
  if 0 ≤ u.1.2.2.2.1 then
   ((u.1.1)[(u.1.2.2.2.1).toNat]?).bind fun y3 =>
   if (u.1.2.1 == y3) then
    some (.inr (.inl ((u.1.2.2.2.1, ()), ((), ()))))
   else
    let v4 := (IntKind.i64.wrap (u.1.2.2.2.1 + (1 : Int)))
    rec ((u.1.1, (u.1.2.1, (u.1.2.2.1, (v4, ())))), ((), ()))
  else none
 else
  some (.inl ((), ((), ())))
def L_ad_2 (x : i_ad_2.den) : Option (denO o_j_2) := Qc l_ad_2 lots x
def F_ad (x : denP P_f) : FO P_f R_c :=
 let v1 := ((x.1.length : Nat) : Int)
 (L_ad_2 ((x.1, (x.2.1, (v1, ((0 : Int), ())))), ((), ()))).bind fun z5 =>
 match z5 with
 | .inl x6 =>
  some (((-1 : Int), ()), ())
 | .inr z5_ =>
  match z5_ with
  | .inl x7 =>
   some ((x7.1.1, ()), ())
  | .inr z5__ =>
   none
abbrev C_ad : Con := ⟨P_f, R_c, F_ad, false⟩
abbrev c_ad_2 : Cut := ⟨i_ad_2, o_j_2, fun x => Qc l_ad_2 lots x⟩
theorem k_ad_2 : Qz Tryz.prog 19 (.loop (nav Tryz.f82 [1, 0, 1, 0, 0])) c_ad_2 :=
  Qj (L := []) hT g_a (fun _ _ => by kernel_rfl) okP _
theorem r_ad (x) : QL T G_a [(2, c_ad_2)] Tryz.f82 C_ad.ps C_ad.rs x = C_ad.F x := by kernel_rfl
theorem s_ad : Qb Tryz.prog 82 C_ad := fnC (L := [(2, c_ad_2)]) hT g_a Tryz.f82 (okS okP (okS (okS okP (okB (okU k_ad_2))) okP)) r_ad
def F_ae (x : denP P_f) : FO P_f R_a :=
 (F_ad (x.1, x.2.1, ())).bind fun r1 =>
 some (((leI (0 : Int) r1.1.1), ()), ())
abbrev C_ae : Con := ⟨P_f, R_a, F_ae, false⟩
abbrev G_ae : Env := [(82, C_ad)]
theorem g_ae : Qh Tryz.prog G_ae := (Qa s_ad Qd)
theorem s_ae : Qb Tryz.prog 50 C_ae := fnC (L := []) hT g_ae Tryz.f50 okP fun _ => by kernel_rfl
abbrev P_af_1 : List PK := [.val Y32, .ptr YI]
def F_af_1 (x : denP P_af_1) : FO P_af_1 R_a :=
 (F_ae (x.1, x.2.1, ())).bind fun r1 =>
 some ((r1.1.1, ()), ())
abbrev C_af_1 : Con := ⟨P_af_1, R_a, F_af_1, false⟩
abbrev G_af_1 : Env := [(50, C_ae)]
theorem g_af_1 : Qh Tryz.prog G_af_1 := (Qa s_ae Qd)
theorem s_af_1 : Qb Tryz.prog 124 C_af_1 := fnC (L := []) hT g_af_1 Tryz.f124 okP fun _ => by kernel_rfl
abbrev P_ag_1 : List PK := [.val Y24, .fn 124 [YI]]
abbrev i_ah_2 : Shp := { slots := [(0, .s (.dat Y24)), (1, .s (.fn 124 [YI])), (7, .s (.dat YI)), (8, .s (.dat YI))], boxes := [], rows := [] }
def l_ah_2 (rec : i_ah_2.den → Option (denO o_j_2)) (u : i_ah_2.den) : Option (denO o_j_2) :=
 if (ltI u.1.2.2.2.1 u.1.2.2.1) then
  if 0 ≤ u.1.2.2.2.1 then
   ((u.1.1)[(u.1.2.2.2.1).toNat]?).bind fun y4 =>
   (F_af_1 (y4, u.1.2.1.1, ())).bind fun r5 =>
   if r5.1.1 then
    some (.inr (.inl ((u.1.2.2.2.1, ()), ((), ()))))
   else
    let v6 := (IntKind.i64.wrap (u.1.2.2.2.1 + (1 : Int)))
    rec ((u.1.1, ((u.1.2.1.1, ()), (u.1.2.2.1, (v6, ())))), ((), ()))
  else none
 else
  some (.inl ((), ((), ())))
def L_ah_2 (x : i_ah_2.den) : Option (denO o_j_2) := Qc l_ah_2 lots x
def F_ag_1 (x : denP P_ag_1) : FO P_ag_1 R_c :=
 let v1 := ((x.1.length : Nat) : Int)
 (L_ah_2 ((x.1, ((x.2.1.1, ()), (v1, ((0 : Int), ())))), ((), ()))).bind fun z7 =>
 match z7 with
 | .inl x8 =>
  some (((-1 : Int), ()), ())
 | .inr z7_ =>
  match z7_ with
  | .inl x9 =>
   some ((x9.1.1, ()), ())
  | .inr z7__ =>
   none
abbrev C_ag_1 : Con := ⟨P_ag_1, R_c, F_ag_1, false⟩
abbrev G_ag_1 : Env := [(124, C_af_1)]
theorem g_ag_1 : Qh Tryz.prog G_ag_1 := (Qa s_af_1 Qd)
abbrev c_ah_2 : Cut := ⟨i_ah_2, o_j_2, fun x => Qc l_ah_2 lots x⟩
theorem k_ah_2 : Qz Tryz.prog 19 (.loop (nav Tryz.f123 [1, 0, 1, 0, 0])) c_ah_2 :=
  Qj (L := []) hT g_ag_1 (fun _ _ => by kernel_rfl) okP _
theorem r_ag_1 (x) : QL T G_ag_1 [(2, c_ah_2)] Tryz.f123 C_ag_1.ps C_ag_1.rs x = C_ag_1.F x := by kernel_rfl
theorem s_ag_1 : Qb Tryz.prog 123 C_ag_1 := fnC (L := [(2, c_ah_2)]) hT g_ag_1 Tryz.f123 (okS okP (okS (okS okP (okB (okU k_ah_2))) okP)) r_ag_1
def F_af (x : denP P_h) : FO P_h R_c :=
 (F_ag_1 (x.1.1, (x.2.1, ()), ())).bind fun r1 =>
 some ((r1.1.1, ()), ())
abbrev C_af : Con := ⟨P_h, R_c, F_af, false⟩
abbrev G_af : Env := [(123, C_ag_1)]
theorem g_af : Qh Tryz.prog G_af := (Qa s_ag_1 Qd)
theorem s_af : Qb Tryz.prog 96 C_af := fnC (L := []) hT g_af Tryz.f96 okP fun _ => by kernel_rfl
def F_ai (x : denP P_k) : FO P_k R_a :=
 if (x.1.1 == x.2.1) = true then
  if (x.1.2.2.2.1 == x.2.2.1) = false then
   if (x.1.2.1 == x.2.1) = true then
    some (((x.1.2.2.2.2.1 == x.2.2.1), ()), ())
   else
    some ((false, ()), ())
  else
   some ((true, ()), ())
 else
  if (x.1.2.1 == x.2.1) = true then
   some (((x.1.2.2.2.2.1 == x.2.2.1), ()), ())
  else
   some ((false, ()), ())
abbrev C_ai : Con := ⟨P_k, R_a, F_ai, false⟩
theorem s_ai : Qb Tryz.prog 99 C_ai := fnC (L := []) hT g_a Tryz.f99 okP fun _ => by kernel_rfl
abbrev P_aj_1 : List PK := [.val Y41, .ptr Y41]
def F_aj_1 (x : denP P_aj_1) : FO P_aj_1 R_a :=
 if (x.1.2.2.1 == x.2.1.2.2.1) = false then
  (F_ai (x.1, x.2.1.1, x.2.1.2.2.2.1, ())).bind fun r1 =>
  if r1.1.1 = false then
   (F_ai (x.1, x.2.1.2.1, x.2.1.2.2.2.2.1, ())).bind fun r2 =>
   some ((r2.1.1, ()), ())
  else
   some ((true, ()), ())
 else
  some ((true, ()), ())
abbrev C_aj_1 : Con := ⟨P_aj_1, R_a, F_aj_1, false⟩
abbrev G_aj_1 : Env := [(99, C_ai)]
theorem g_aj_1 : Qh Tryz.prog G_aj_1 := (Qa s_ai Qd)
theorem s_aj_1 : Qb Tryz.prog 98 C_aj_1 := fnC (L := []) hT g_aj_1 Tryz.f98 okP fun _ => by kernel_rfl
abbrev P_ak_1 : List PK := [.val Y25, .fn 98 [Y41]]
abbrev i_al_2 : Shp := { slots := [(0, .s (.dat Y25)), (1, .s (.fn 98 [Y41])), (7, .s (.dat YI)), (8, .s (.dat YI))], boxes := [], rows := [] }
def l_al_2 (rec : i_al_2.den → Option (denO o_j_2)) (u : i_al_2.den) : Option (denO o_j_2) :=
 if (ltI u.1.2.2.2.1 u.1.2.2.1) then
  if 0 ≤ u.1.2.2.2.1 then
   ((u.1.1)[(u.1.2.2.2.1).toNat]?).bind fun y4 =>
   (F_aj_1 (y4, u.1.2.1.1, ())).bind fun r5 =>
   if r5.1.1 then
    some (.inr (.inl ((u.1.2.2.2.1, ()), ((), ()))))
   else
    let v6 := (IntKind.i64.wrap (u.1.2.2.2.1 + (1 : Int)))
    rec ((u.1.1, ((u.1.2.1.1, ()), (u.1.2.2.1, (v6, ())))), ((), ()))
  else none
 else
  some (.inl ((), ((), ())))
def L_al_2 (x : i_al_2.den) : Option (denO o_j_2) := Qc l_al_2 lots x
def F_ak_1 (x : denP P_ak_1) : FO P_ak_1 R_c :=
 let v1 := ((x.1.length : Nat) : Int)
 (L_al_2 ((x.1, ((x.2.1.1, ()), (v1, ((0 : Int), ())))), ((), ()))).bind fun z7 =>
 match z7 with
 | .inl x8 =>
  some (((-1 : Int), ()), ())
 | .inr z7_ =>
  match z7_ with
  | .inl x9 =>
   some ((x9.1.1, ()), ())
  | .inr z7__ =>
   none
abbrev C_ak_1 : Con := ⟨P_ak_1, R_c, F_ak_1, false⟩
abbrev G_ak_1 : Env := [(98, C_aj_1)]
theorem g_ak_1 : Qh Tryz.prog G_ak_1 := (Qa s_aj_1 Qd)
abbrev c_al_2 : Cut := ⟨i_al_2, o_j_2, fun x => Qc l_al_2 lots x⟩
theorem k_al_2 : Qz Tryz.prog 19 (.loop (nav Tryz.f125 [1, 0, 1, 0, 0])) c_al_2 :=
  Qj (L := []) hT g_ak_1 (fun _ _ => by kernel_rfl) okP _
theorem r_ak_1 (x) : QL T G_ak_1 [(2, c_al_2)] Tryz.f125 C_ak_1.ps C_ak_1.rs x = C_ak_1.F x := by kernel_rfl
theorem s_ak_1 : Qb Tryz.prog 125 C_ak_1 := fnC (L := [(2, c_al_2)]) hT g_ak_1 Tryz.f125 (okS okP (okS (okS okP (okB (okU k_al_2))) okP)) r_ak_1
def F_am_1 (x : denP P_ak_1) : FO P_ak_1 R_a :=
 (F_ak_1 (x.1, (x.2.1.1, ()), ())).bind fun r1 =>
 some (((leI (0 : Int) r1.1.1), ()), ())
abbrev C_am_1 : Con := ⟨P_ak_1, R_a, F_am_1, false⟩
abbrev G_am_1 : Env := [(125, C_ak_1)]
theorem g_am_1 : Qh Tryz.prog G_am_1 := (Qa s_ak_1 Qd)
theorem s_am_1 : Qb Tryz.prog 97 C_am_1 := fnC (L := []) hT g_am_1 Tryz.f97 okP fun _ => by kernel_rfl
abbrev P_aj : List PK := [.ptr Y28, .val Y41, .val Y25]
def F_aj (x : denP P_aj) : FO P_aj R_c :=
 (F_ac (x.1, x.2.1.1, x.2.1.2.1, ())).bind fun r1 =>
 if (r1.1.1 != (0 : Int)) then
  some ((r1.1.1, ()), ())
 else
  (F_z (x.2.1.2.2.1, (0 : Int), (23 : Int), ())).bind fun r2 =>
  if (!r2.1.1) = false then
   (F_z (x.2.1.2.2.2.1, (5 : Int), (6 : Int), ())).bind fun r3 =>
   if (!r3.1.1) = false then
    (F_z (x.2.1.2.2.2.2.1, (5 : Int), (6 : Int), ())).bind fun r4 =>
    if (!r4.1.1) then
     some (((3 : Int), ()), ())
    else
     (F_af (x.1, x.2.1.2.2.1, ())).bind fun r5 =>
     if (leI (0 : Int) r5.1.1) = false then
      (F_am_1 (x.2.2.1, (x.2.1, ()), ())).bind fun r6 =>
      if r6.1.1 then
       some (((6 : Int), ()), ())
      else
       some (((0 : Int), ()), ())
     else
      some (((6 : Int), ()), ())
   else
    some (((3 : Int), ()), ())
  else
   some (((3 : Int), ()), ())
abbrev C_aj : Con := ⟨P_aj, R_c, F_aj, false⟩
abbrev G_aj : Env := [(27, C_z), (95, C_ac), (96, C_af), (97, C_am_1)]
theorem g_aj : Qh Tryz.prog G_aj := (Qa s_z (Qa s_ac (Qa s_af (Qa s_am_1 Qd))))
theorem s_aj : Qb Tryz.prog 68 C_aj := fnC (L := []) hT g_aj Tryz.f68 okP fun _ => by kernel_rfl
abbrev P_an : List PK := [.val Y26, .val Y70]
abbrev i_an_2 : Shp := { slots := [(0, .s (.dat Y26)), (3, .s (.ptr 3 0)), (7, .s (.dat YI)), (8, .s (.dat YI))], boxes := [(3, [.dat YI, .dat YI])], rows := [] }
def l_an_2 (rec : i_an_2.den → Option (denO o_j_2)) (u : i_an_2.den) : Option (denO o_j_2) :=
 if (ltI u.1.2.2.2.1 u.1.2.2.1) then
  if 0 ≤ u.1.2.2.2.1 then
   ((u.1.1)[(u.1.2.2.2.1).toNat]?).bind fun y3 =>
   if ((u.2.1.1.1 == y3.1) && ((u.2.1.1.2.1 == y3.2.1) && true)) then
    some (.inr (.inl ((u.1.2.2.2.1, ()), ((), ()))))
   else
    let v4 := (IntKind.i64.wrap (u.1.2.2.2.1 + (1 : Int)))
    rec ((u.1.1, ((), (u.1.2.2.1, (v4, ())))), ((u.2.1.1, ()), ()))
  else none
 else
  some (.inl ((), ((), ())))
def L_an_2 (x : i_an_2.den) : Option (denO o_j_2) := Qc l_an_2 lots x
def F_an (x : denP P_an) : FO P_an R_c :=
 let v1 := ((x.1.length : Nat) : Int)
 (L_an_2 ((x.1, ((), (v1, ((0 : Int), ())))), (((x.2.1.1, (x.2.1.2.1, ())), ()), ()))).bind fun z5 =>
 match z5 with
 | .inl x6 =>
  some (((-1 : Int), ()), ())
 | .inr z5_ =>
  match z5_ with
  | .inl x7 =>
   some ((x7.1.1, ()), ())
  | .inr z5__ =>
   none
abbrev C_an : Con := ⟨P_an, R_c, F_an, false⟩
abbrev c_an_2 : Cut := ⟨i_an_2, o_j_2, fun x => Qc l_an_2 lots x⟩
theorem k_an_2 : Qz Tryz.prog 19 (.loop (nav Tryz.f94 [1, 0, 1, 0, 0])) c_an_2 :=
  Qj (L := []) hT g_a (fun _ _ => by kernel_rfl) okP _
theorem r_an (x) : QL T G_a [(2, c_an_2)] Tryz.f94 C_an.ps C_an.rs x = C_an.F x := by kernel_rfl
theorem s_an : Qb Tryz.prog 94 C_an := fnC (L := [(2, c_an_2)]) hT g_a Tryz.f94 (okS okP (okS (okS okP (okB (okU k_an_2))) okP)) r_an
def F_ao (x : denP P_an) : FO P_an R_a :=
 (F_an (x.1, x.2.1, ())).bind fun r1 =>
 some (((leI (0 : Int) r1.1.1), ()), ())
abbrev C_ao : Con := ⟨P_an, R_a, F_ao, false⟩
abbrev G_ao : Env := [(94, C_an)]
theorem g_ao : Qh Tryz.prog G_ao := (Qa s_an Qd)
theorem s_ao : Qb Tryz.prog 66 C_ao := fnC (L := []) hT g_ao Tryz.f66 okP fun _ => by kernel_rfl
abbrev P_ap : List PK := [.ptr Y28, .val Y70, .val Y26]
def F_ap (x : denP P_ap) : FO P_ap R_c :=
 (F_ac (x.1, x.2.1.1, x.2.1.2.1, ())).bind fun r1 =>
 if (r1.1.1 != (0 : Int)) then
  some ((r1.1.1, ()), ())
 else
  (F_ao (x.2.2.1, x.2.1, ())).bind fun r2 =>
  if r2.1.1 then
   some (((6 : Int), ()), ())
  else
   some (((0 : Int), ()), ())
abbrev C_ap : Con := ⟨P_ap, R_c, F_ap, false⟩
abbrev G_ap : Env := [(66, C_ao), (95, C_ac)]
theorem g_ap : Qh Tryz.prog G_ap := (Qa s_ao (Qa s_ac Qd))
theorem s_ap : Qb Tryz.prog 69 C_ap := fnC (L := []) hT g_ap Tryz.f69 okP fun _ => by kernel_rfl
abbrev i_aq_4 : Shp := { slots := [(0, .s (.pd Y28)), (15, .s (.dat Y26)), (16, .s (.dat YI)), (17, .s (.dat YI))], boxes := [], rows := [] }
def l_aq_4 (rec : i_aq_4.den → Option (denO o_l_4)) (u : i_aq_4.den) : Option (denO o_l_4) :=
 if (ltI u.1.2.2.2.1 u.1.2.2.1) then
  if 0 ≤ u.1.2.2.2.1 then
   ((u.1.2.1)[(u.1.2.2.2.1).toNat]?).bind fun y7 =>
   (F_ab (u.1.1, y7.1, ())).bind fun r8 =>
   if (!r8.1.1) then
    some (.inr (.inl (((4 : Int), ()), ((), ()))))
   else
    (F_z (y7.2.1, (1 : Int), (50 : Int), ())).bind fun r9 =>
    if (!r9.1.1) then
     some (.inr (.inl (((3 : Int), ()), ((), ()))))
    else
     let v10 := (IntKind.i64.wrap (u.1.2.2.2.1 + (1 : Int)))
     rec ((u.1.1, (u.1.2.1, (u.1.2.2.1, (v10, ())))), ((), ()))
  else none
 else
  some (.inl ((), ((), ())))
def L_aq_4 (x : i_aq_4.den) : Option (denO o_l_4) := Qc l_aq_4 lots x
def F_aq (x : denP P_g) : FO P_g R_c :=
 let v1 := ((x.1.2.2.2.1.length : Nat) : Int)
 (F_z (v1, (1 : Int), (8 : Int), ())).bind fun r2 =>
 if (!r2.1.1) then
  some (((2 : Int), ()), ())
 else
  let v3 := ((x.1.2.2.2.1.length : Nat) : Int)
  (L_aq_4 ((x.1, (x.1.2.2.2.1, (v3, ((0 : Int), ())))), ((), ()))).bind fun z11 =>
  match z11 with
  | .inl x12 =>
   some (((0 : Int), ()), ())
  | .inr z11_ =>
   match z11_ with
   | .inl x13 =>
    some ((x13.1.1, ()), ())
   | .inr z11__ =>
    none
abbrev C_aq : Con := ⟨P_g, R_c, F_aq, false⟩
abbrev G_aq : Env := [(27, C_z), (33, C_ab)]
theorem g_aq : Qh Tryz.prog G_aq := (Qa s_z (Qa s_ab Qd))
abbrev c_aq_4 : Cut := ⟨i_aq_4, o_l_4, fun x => Qc l_aq_4 lots x⟩
theorem k_aq_4 : Qz Tryz.prog 33 (.loop (nav Tryz.f70 [1, 1, 0, 1, 0, 0])) c_aq_4 :=
  Qj (L := []) hT g_aq (fun _ _ => by kernel_rfl) okP _
theorem r_aq (x) : QL T G_aq [(4, c_aq_4)] Tryz.f70 C_aq.ps C_aq.rs x = C_aq.F x := by kernel_rfl
theorem s_aq : Qb Tryz.prog 70 C_aq := fnC (L := [(4, c_aq_4)]) hT g_aq Tryz.f70 (okS okP (okS okP (okS (okS okP (okB (okU k_aq_4))) okP))) r_aq
abbrev P_ar : List PK := [.val Y28]
abbrev i_ar_14 : Shp := { slots := [(1, .s (.ptr 1 0)), (43, .s (.dat Y26)), (44, .s (.dat YI)), (45, .s (.dat YI))], boxes := [(1, [.dat Y24, .dat Y25, .dat Y26, .dat Y26])], rows := [] }
abbrev o_ar_14 : List (Ex × Shp) := [(.exit 2, { slots := [(1, .s (.ptr 1 0))], boxes := [(1, [.dat Y24, .dat Y25, .dat Y26, .dat Y26])], rows := [] }), (.ret, { slots := [(2, .s (.dat YI))], boxes := [], rows := [] })]
def l_ar_14 (rec : i_ar_14.den → Option (denO o_ar_14)) (u : i_ar_14.den) : Option (denO o_ar_14) :=
 if (ltI u.1.2.2.2.1 u.1.2.2.1) then
  if 0 ≤ u.1.2.2.2.1 then
   ((u.1.2.1)[(u.1.2.2.2.1).toNat]?).bind fun y16 =>
   if 0 ≤ (0 : Int) ∧ (0 : Int) ≤ u.1.2.2.2.1 ∧ u.1.2.2.2.1 ≤ ((u.2.1.1.2.2.1.length : Nat) : Int) then
    let v17 := ((u.2.1.1.2.2.1.drop ((0 : Int)).toNat).take ((u.1.2.2.2.1).toNat - ((0 : Int)).toNat))
    (F_ap (u.2.1.1, y16, v17, ())).bind fun r18 =>
    if (r18.1.1 != (0 : Int)) then
     some (.inr (.inl ((r18.1.1, ()), ((), ()))))
    else
     let v19 := (IntKind.i64.wrap (u.1.2.2.2.1 + (1 : Int)))
     rec (((), (u.1.2.1, (u.1.2.2.1, (v19, ())))), ((u.2.1.1, ()), ()))
   else none
  else none
 else
  some (.inl (((), ()), ((u.2.1.1, ()), ())))
def L_ar_14 (x : i_ar_14.den) : Option (denO o_ar_14) := Qc l_ar_14 lots x
abbrev i_ar_7 : Shp := { slots := [(1, .s (.ptr 1 0)), (25, .s (.dat Y25)), (26, .s (.dat YI)), (27, .s (.dat YI))], boxes := [(1, [.dat Y24, .dat Y25, .dat Y26, .dat Y26])], rows := [] }
abbrev o_ar_7 : List (Ex × Shp) := [(.exit 0, { slots := [(1, .s (.ptr 1 0))], boxes := [(1, [.dat Y24, .dat Y25, .dat Y26, .dat Y26])], rows := [] }), (.ret, { slots := [(2, .s (.dat YI))], boxes := [], rows := [] })]
def l_ar_7 (rec : i_ar_7.den → Option (denO o_ar_7)) (u : i_ar_7.den) : Option (denO o_ar_7) :=
 if (ltI u.1.2.2.2.1 u.1.2.2.1) then
  if 0 ≤ u.1.2.2.2.1 then
   ((u.1.2.1)[(u.1.2.2.2.1).toNat]?).bind fun y7 =>
   if 0 ≤ (0 : Int) ∧ (0 : Int) ≤ u.1.2.2.2.1 ∧ u.1.2.2.2.1 ≤ ((u.2.1.1.2.1.length : Nat) : Int) then
    let v8 := ((u.2.1.1.2.1.drop ((0 : Int)).toNat).take ((u.1.2.2.2.1).toNat - ((0 : Int)).toNat))
    (F_aj (u.2.1.1, y7, v8, ())).bind fun r9 =>
    if (r9.1.1 != (0 : Int)) then
     some (.inr (.inl ((r9.1.1, ()), ((), ()))))
    else
     let v10 := (IntKind.i64.wrap (u.1.2.2.2.1 + (1 : Int)))
     rec (((), (u.1.2.1, (u.1.2.2.1, (v10, ())))), ((u.2.1.1, ()), ()))
   else none
  else none
 else
  some (.inl (((), ()), ((u.2.1.1, ()), ())))
def L_ar_7 (x : i_ar_7.den) : Option (denO o_ar_7) := Qc l_ar_7 lots x
def F_ar (x : denP P_ar) : FO P_ar R_c :=
 (F_aa (x.1, ())).bind fun r1 =>
 if (r1.1.1 != (0 : Int)) then
  some ((r1.1.1, ()), ())
 else
  let v2 := ((x.1.2.1.length : Nat) : Int)
  if (ltI (4 : Int) v2) = false then
   let v3 := ((x.1.2.2.1.length : Nat) : Int)
   if (ltI (4 : Int) v3) then
    some (((2 : Int), ()), ())
   else
    let v4 := ((x.1.2.1.length : Nat) : Int)
    (L_ar_7 (((), (x.1.2.1, (v4, ((0 : Int), ())))), (((x.1.1, (x.1.2.1, (x.1.2.2.1, (x.1.2.2.2.1, ())))), ()), ()))).bind fun z11 =>
    match z11 with
    | .inl x12 =>
     let v13 := ((x12.2.1.1.2.2.1.length : Nat) : Int)
     (L_ar_14 (((), (x12.2.1.1.2.2.1, (v13, ((0 : Int), ())))), ((x12.2.1.1, ()), ()))).bind fun z20 =>
     match z20 with
     | .inl x21 =>
      (F_aq (x21.2.1.1, ())).bind fun r22 =>
      some ((r22.1.1, ()), ())
     | .inr z20_ =>
      match z20_ with
      | .inl x23 =>
       some ((x23.1.1, ()), ())
      | .inr z20__ =>
       none
    | .inr z11_ =>
     match z11_ with
     | .inl x24 =>
      some ((x24.1.1, ()), ())
     | .inr z11__ =>
      none
  else
   some (((2 : Int), ()), ())
abbrev C_ar : Con := ⟨P_ar, R_c, F_ar, false⟩
abbrev G_ar : Env := [(67, C_aa), (68, C_aj), (69, C_ap), (70, C_aq)]
theorem g_ar : Qh Tryz.prog G_ar := (Qa s_aa (Qa s_aj (Qa s_ap (Qa s_aq Qd))))
abbrev c_ar_14 : Cut := ⟨i_ar_14, o_ar_14, fun x => Qc l_ar_14 lots x⟩
theorem k_ar_14 : Qz Tryz.prog 61 (.loop (nav Tryz.f30 [1, 1, 1, 1, 0, 1, 0, 0])) c_ar_14 :=
  Qj (L := []) hT g_ar (fun _ _ => by kernel_rfl) okP _
abbrev c_ar_7 : Cut := ⟨i_ar_7, o_ar_7, fun x => Qc l_ar_7 lots x⟩
theorem k_ar_7 : Qz Tryz.prog 61 (.loop (nav Tryz.f30 [1, 1, 1, 0, 1, 0, 0])) c_ar_7 :=
  Qj (L := []) hT g_ar (fun _ _ => by kernel_rfl) okP _
theorem r_ar (x) : QL T G_ar [(14, c_ar_14), (7, c_ar_7)] Tryz.f30 C_ar.ps C_ar.rs x = C_ar.F x := by kernel_rfl
theorem s_ar : Qb Tryz.prog 30 C_ar := fnC (L := [(14, c_ar_14), (7, c_ar_7)]) hT g_ar Tryz.f30 (okS okP (okS okP (okS okP (okS (okS okP (okB (okU k_ar_7))) (okS (okS okP (okB (okU k_ar_14))) okP))))) r_ar
def F_as (x : denP P_o) : FO P_o R_c :=
 let v1 := (iand .i64 x.1 (4294967295 : Int))
 some ((v1, ()), ())
abbrev C_as : Con := ⟨P_o, R_c, F_as, false⟩
theorem s_as : Qb Tryz.prog 39 C_as := fnC (L := []) hT g_a Tryz.f39 okP fun _ => by kernel_rfl
abbrev P_at : List PK := [.val Y28, .val Y24]
abbrev R_at : List VK := [.g [.dat YI, .own 2 YI]]
abbrev i_at_14 : Shp := { slots := [(2, .s (.ptr 2 0)), (4, .s (.ptr 4 0)), (6, .s (.own 2 YI)), (9, .s (.dat Y32)), (26, .s (.dat Y24)), (27, .s (.dat YI)), (28, .s (.dat YI)), (45, .s (.dat Y32)), (46, .s (.dat YI)), (47, .s (.dat YI))], boxes := [(2, [.dat Y24, .dat Y25, .dat Y26, .dat Y26]), (4, [.dat YI, .own 2 YI])], rows := [] }
abbrev o_at_14 : List (Ex × Shp) := [(.exit 2, { slots := [(2, .s (.ptr 2 0)), (4, .s (.ptr 4 0)), (6, .s (.own 2 YI)), (26, .s (.dat Y24)), (27, .s (.dat YI)), (28, .s (.dat YI))], boxes := [(2, [.dat Y24, .dat Y25, .dat Y26, .dat Y26]), (4, [.dat YI, .own 2 YI])], rows := [] })]
def l_at_14 (rec : i_at_14.den → Option (denO o_at_14)) (u : i_at_14.den) : Option (denO o_at_14) :=
 if (ltI u.1.2.2.2.2.2.2.2.2.2.1 u.1.2.2.2.2.2.2.2.2.1) then
  if 0 ≤ u.1.2.2.2.2.2.2.2.2.2.1 then
   ((u.1.2.2.2.2.2.2.2.1)[(u.1.2.2.2.2.2.2.2.2.2.1).toNat]?).bind fun y23 =>
   let v24 := (IntKind.i64.wrap ((u.1.2.2.2.2.2.2.2.2.2.1).tdiv (8 : Int)))
   if 0 ≤ v24 then
    ((u.1.2.2.2.1)[(v24).toNat]?).bind fun y25 =>
    let v26 := (IntKind.i64.wrap (y25 * (8 : Int)))
    let v27 := ((u.1.2.2.2.2.2.2.2.2.2.1).tmod (8 : Int))
    let v28 := (IntKind.i64.wrap (v26 + v27))
    (F_as (y23, ())).bind fun r29 =>
    if 0 ≤ v28 ∧ v28 < ((u.1.2.2.1.length : Nat) : Int) then
     ((u.1.2.2.1)[(v28).toNat]?).bind fun y30 =>
     let v31 := (u.1.2.2.1.set (v28).toNat r29.1.1)
     let v32 := (IntKind.i64.wrap (u.1.2.2.2.2.2.2.2.2.2.1 + (1 : Int)))
     rec (((), ((), (v31, (u.1.2.2.2.1, (u.1.2.2.2.2.1, (u.1.2.2.2.2.2.1, (u.1.2.2.2.2.2.2.1, (u.1.2.2.2.2.2.2.2.1, (u.1.2.2.2.2.2.2.2.2.1, (v32, ())))))))))), ((u.2.1.1, (u.2.1.2.1, ())), ()))
    else none
   else none
  else none
 else
  some (.inl (((), ((), (u.1.2.2.1, (u.1.2.2.2.2.1, (u.1.2.2.2.2.2.1, (u.1.2.2.2.2.2.2.1, ())))))), ((u.2.1.1, (u.2.1.2.1, ())), ())))
def L_at_14 (x : i_at_14.den) : Option (denO o_at_14) := Qc l_at_14 lots x
abbrev i_at_8 : Shp := { slots := [(2, .s (.ptr 2 0)), (4, .s (.ptr 4 0)), (6, .s (.own 2 YI)), (26, .s (.dat Y24)), (27, .s (.dat YI)), (28, .s (.dat YI))], boxes := [(2, [.dat Y24, .dat Y25, .dat Y26, .dat Y26]), (4, [.dat YI, .own 2 YI])], rows := [] }
abbrev o_at_8 : List (Ex × Shp) := [(.exit 0, { slots := [(4, .s (.ptr 4 0)), (6, .s (.own 2 YI))], boxes := [(4, [.dat YI, .own 2 YI])], rows := [] }), (.ret, { slots := [(4, .s (.ptr 4 0))], boxes := [(4, [.dat YI, .own 2 YI])], rows := [] })]
def l_at_8 (rec : i_at_8.den → Option (denO o_at_8)) (u : i_at_8.den) : Option (denO o_at_8) :=
 if (ltI u.1.2.2.2.2.2.1 u.1.2.2.2.2.1) then
  if 0 ≤ u.1.2.2.2.2.2.1 then
   ((u.1.2.2.2.1)[(u.1.2.2.2.2.2.1).toNat]?).bind fun y13 =>
   if 0 ≤ u.1.2.2.2.2.2.1 then
    ((u.2.1.1.1)[(u.1.2.2.2.2.2.1).toNat]?).bind fun y14 =>
    let v15 := ((y13.length : Nat) : Int)
    let v16 := ((y14.length : Nat) : Int)
    let v17 := (IntKind.i64.wrap (v16 * (8 : Int)))
    if (ltI v17 v15) then
     some (.inr (.inl (((), ()), ((((8 : Int), (([] : List (den YI)), ())), ()), ()))))
    else
     let v18 := ((y13.length : Nat) : Int)
     (L_at_14 (((), ((), (u.1.2.2.1, (y14, (u.1.2.2.2.1, (u.1.2.2.2.2.1, (u.1.2.2.2.2.2.1, (y13, (v18, ((0 : Int), ())))))))))), ((u.2.1.1, (u.2.1.2.1, ())), ()))).bind fun z33 =>
     match z33 with
     | .inl x34 =>
      let v35 := (IntKind.i64.wrap (x34.1.2.2.2.2.2.1 + (1 : Int)))
      rec (((), ((), (x34.1.2.2.1, (x34.1.2.2.2.1, (x34.1.2.2.2.2.1, (v35, ())))))), ((x34.2.1.1, (x34.2.1.2.1, ())), ()))
     | .inr z33_ =>
      none
   else none
  else none
 else
  some (.inl (((), (u.1.2.2.1, ())), ((u.2.1.2.1, ()), ())))
def L_at_8 (x : i_at_8.den) : Option (denO o_at_8) := Qc l_at_8 lots x
def F_at (x : denP P_at) : FO P_at R_at :=
 (F_ar (x.1, ())).bind fun r1 =>
 if (r1.1.1 != (0 : Int)) then
  some (((r1.1.1, (([] : List (den YI)), ())), ()), ())
 else
  let v2 := ((x.2.1.length : Nat) : Int)
  let v3 := ((x.1.1.length : Nat) : Int)
  if (v2 != v3) then
   some ((((2 : Int), (([] : List (den YI)), ())), ()), ())
  else
   let v4 := ((x.2.1.length : Nat) : Int)
   (L_at_8 (((), ((), ((List.replicate ((192 : Int)).toNat (QbO YI)), (x.2.1, (v4, ((0 : Int), ())))))), (((x.1.1, (x.1.2.1, (x.1.2.2.1, (x.1.2.2.2.1, ())))), (((0 : Int), (([] : List (den YI)), ())), ())), ()))).bind fun z36 =>
   match z36 with
   | .inl x37 =>
    some ((((0 : Int), (x37.1.2.1, ())), ()), ())
   | .inr z36_ =>
    match z36_ with
    | .inl x38 =>
     some ((x38.2.1.1, ()), ())
    | .inr z36__ =>
     none
abbrev C_at : Con := ⟨P_at, R_at, F_at, false⟩
abbrev G_at : Env := [(30, C_ar), (39, C_as)]
theorem g_at : Qh Tryz.prog G_at := (Qa s_ar (Qa s_as Qd))
abbrev c_at_14 : Cut := ⟨i_at_14, o_at_14, fun x => Qc l_at_14 lots x⟩
theorem k_at_14 : Qz Tryz.prog 69 (.loop (nav Tryz.f23 [1, 1, 1, 1, 0, 1, 0, 0, 1, 1, 0, 0, 1, 1, 1, 1, 0, 0])) c_at_14 :=
  Qj (L := []) hT g_at (fun _ _ => by kernel_rfl) okP _
abbrev c_at_8 : Cut := ⟨i_at_8, o_at_8, fun x => Qc l_at_8 lots x⟩
theorem t_at_8 (rec x) : run T G_at [(14, c_at_14)] (nav Tryz.f23 [1, 1, 1, 1, 0, 1, 0, 0]) (mk 69 i_at_8 x) (QeL i_at_8 o_at_8 rec) = l_at_8 rec x := by kernel_rfl
theorem k_at_8 : Qz Tryz.prog 69 (.loop (nav Tryz.f23 [1, 1, 1, 1, 0, 1, 0, 0])) c_at_8 :=
  Qj (L := [(14, c_at_14)]) hT g_at t_at_8 (okS okP (okS okP (okS (okB (okS okP (okS okP (okS okP (okS okP (okB (okU k_at_14))))))) okP))) _
theorem r_at (x) : QL T G_at [(14, c_at_14), (8, c_at_8)] Tryz.f23 C_at.ps C_at.rs x = C_at.F x := by kernel_rfl
theorem s_at : Qb Tryz.prog 23 C_at := fnC (L := [(14, c_at_14), (8, c_at_8)]) hT g_at Tryz.f23 (okS okP (okS okP (okS okP (okS okP (okS (okS okP (okB (okU k_at_8))) okP))))) r_at
abbrev P_au : List PK := [.val Y24]
def F_au (x : denP P_au) : FO P_au R_w :=
  if (([] : List (den Y32)).length + x.1.length) * 24 ≤ 140737488355328 then some (([] ++ x.1, ()), ()) else none
abbrev C_au : Con := ⟨P_au, R_w, F_au, false⟩
theorem s_au : Qb Tryz.prog 54 C_au :=
  QcI hT (fn := Tryz.f54) (cn := C_au) (c0 := nav Tryz.f54 [0]) (ca := nav Tryz.f54 [1, 0, 1, 0]) (cb := nav Tryz.f54 [1, 1]) (id := 1) (d := 4) (nm := 1032000) (o1 := Qet Tryz.f54 [1, 0, 0] 0) (o2 := Qet Tryz.f54 [1, 0, 0] 1)
    (t := 24) (t' := 24) (x := .tmp 3) (r := ⟨Y24, [], 32, 24, 3000032⟩) (u := Y32) (by kernel_rfl) (by kernel_rfl) (by kernel_rfl) ⟨by kernel_rfl, by kernel_rfl⟩ (fun y => by kernel_rfl) (by kernel_rfl) (by kernel_rfl) (by kernel_rfl) (by kernel_rfl) (by kernel_rfl) rfl
    (fun y => (st0 Tryz.f54 P_au y).set 2 (.s .nls)) (fun y => ((st0 Tryz.f54 P_au y).set 2 (.s .nls)).set 3 (.s (.d (.slice Y32) y.1))) (fun y => y.1)
    (fun y => by kernel_rfl) (fun y => by kernel_rfl) (fun y => by kernel_rfl) (fun y => Nat.le_of_ble_eq_true (by kernel_rfl)) (fun y => by kernel_rfl) (by kernel_rfl) (by kernel_rfl) (by kernel_rfl) (fun y => by kernel_rfl)
    (fun y h => by obtain ⟨l, v⟩ := y; have h : l = [] := h; subst h; show run _ _ _ _ _ _ = F_au ([], v); kernel_rfl) (fun y => by kernel_rfl)
abbrev P_av : List PK := [.val Y32]
def F_av (x : denP P_av) : FO P_av R_v :=
  if (([] : List (den YI)).length + x.1.length) * 8 ≤ 140737488355328 then some (([] ++ x.1, ()), ()) else none
abbrev C_av : Con := ⟨P_av, R_v, F_av, false⟩
theorem s_av : Qb Tryz.prog 57 C_av :=
  QcI hT (fn := Tryz.f57) (cn := C_av) (c0 := nav Tryz.f57 [0]) (ca := nav Tryz.f57 [1, 0, 1, 0]) (cb := nav Tryz.f57 [1, 1]) (id := 1) (d := 4) (nm := 1032000) (o1 := Qet Tryz.f57 [1, 0, 0] 0) (o2 := Qet Tryz.f57 [1, 0, 0] 1)
    (t := 32) (t' := 32) (x := .tmp 3) (r := ⟨Y32, [], 2, 24, 0⟩) (u := YI) (by kernel_rfl) (by kernel_rfl) (by kernel_rfl) ⟨by kernel_rfl, by kernel_rfl⟩ (fun y => by kernel_rfl) (by kernel_rfl) (by kernel_rfl) (by kernel_rfl) (by kernel_rfl) (by kernel_rfl) rfl
    (fun y => (st0 Tryz.f57 P_av y).set 2 (.s .nls)) (fun y => ((st0 Tryz.f57 P_av y).set 2 (.s .nls)).set 3 (.s (.d (.slice YI) y.1))) (fun y => y.1)
    (fun y => by kernel_rfl) (fun y => by kernel_rfl) (fun y => by kernel_rfl) (fun y => Nat.le_of_ble_eq_true (by kernel_rfl)) (fun y => by kernel_rfl) (by kernel_rfl) (by kernel_rfl) (by kernel_rfl) (fun y => by kernel_rfl)
    (fun y h => by obtain ⟨l, v⟩ := y; have h : l = [] := h; subst h; show run _ _ _ _ _ _ = F_av ([], v); kernel_rfl) (fun y => by kernel_rfl)
abbrev P_aw : List PK := [.val Y25]
abbrev R_aw : List VK := [.s (.own 42 Y41)]
def F_aw (x : denP P_aw) : FO P_aw R_aw :=
  if (([] : List (den Y41)).length + x.1.length) * 40 ≤ 140737488355328 then some (([] ++ x.1, ()), ()) else none
abbrev C_aw : Con := ⟨P_aw, R_aw, F_aw, false⟩
theorem s_aw : Qb Tryz.prog 58 C_aw :=
  QcI hT (fn := Tryz.f58) (cn := C_aw) (c0 := nav Tryz.f58 [0]) (ca := nav Tryz.f58 [1, 0, 1, 0]) (cb := nav Tryz.f58 [1, 1]) (id := 1) (d := 4) (nm := 1032000) (o1 := Qet Tryz.f58 [1, 0, 0] 0) (o2 := Qet Tryz.f58 [1, 0, 0] 1)
    (t := 25) (t' := 25) (x := .tmp 3) (r := ⟨Y25, [], 42, 24, 0⟩) (u := Y41) (by kernel_rfl) (by kernel_rfl) (by kernel_rfl) ⟨by kernel_rfl, by kernel_rfl⟩ (fun y => by kernel_rfl) (by kernel_rfl) (by kernel_rfl) (by kernel_rfl) (by kernel_rfl) (by kernel_rfl) rfl
    (fun y => (st0 Tryz.f58 P_aw y).set 2 (.s .nls)) (fun y => ((st0 Tryz.f58 P_aw y).set 2 (.s .nls)).set 3 (.s (.d (.slice Y41) y.1))) (fun y => y.1)
    (fun y => by kernel_rfl) (fun y => by kernel_rfl) (fun y => by kernel_rfl) (fun y => Nat.le_of_ble_eq_true (by kernel_rfl)) (fun y => by kernel_rfl) (by kernel_rfl) (by kernel_rfl) (by kernel_rfl) (fun y => by kernel_rfl)
    (fun y h => by obtain ⟨l, v⟩ := y; have h : l = [] := h; subst h; show run _ _ _ _ _ _ = F_aw ([], v); kernel_rfl) (fun y => by kernel_rfl)
end Go.Proofs.YtmoninjbahccoaaGreatDoor
