/- The functions of the laws, each as a plain function of data (F), and that the program's text does what F says. Printed by a program (wip/tools/gen.py). -/
import Derived.Test.YtajnommlfjfgpaaGreatDoorGt
namespace Go.Proofs.YtajnommlfjfgpaaGreatDoor
open Go Go.RowKit S Go.Proofs
set_option maxRecDepth 100000
set_option linter.unusedVariables false
/-! laws.lwBig -/
abbrev P_a : List PK := [.val Y22]
abbrev R_a : List VK := [.s (.dat .bool)]
def F_a (x : denP P_a) : Option (denV R_a × denQ P_a) :=
 let v1 := ((x.1.length : Nat) : Int)
 some (((ltI (1048576 : Int) v1), ()), ())
abbrev C_a : Con := ⟨P_a, R_a, F_a, false⟩
abbrev G_a : Env := []
theorem g_a : EnvOk Tryz.prog G_a := env_nil
theorem r_a (x) : runFn T G_a [] Tryz.f11 P_a R_a x = F_a x := by kernel_rfl
theorem s_a : CallsOk Tryz.prog 11 C_a :=
 fn_calls (L := []) hT g_a Tryz.f11 (by kernel_rfl) (by kernel_rfl) (by kernel_rfl) (plain_ok (by kernel_rfl)) r_a
/-! spec.l1Source -/
abbrev P_b : List PK := [.val Y22]
abbrev R_b : List VK := [.s (.bx Y190)]
def F_b (x : denP P_b) : Option (denV R_b × denQ P_b) := some (((x.1, (0 : Int), ()), ()), ())
abbrev C_b : Con := ⟨P_b, R_b, F_b, false⟩
theorem w_b (A : Option Addr) (n cap : Nat) (w : World) : Calls Tryz.prog 51 #[.slice A n cap] w fun e w' => e = .returned (.pointer (some ⟨w.heap.size, 0, none⟩)) ∧ w' = w.alloc (.cells #[.slice A n cap, .int .i64 0] 191) := by
 go_enter Tryz.func51, Tryz.ntmps51
 go_wp2
 go_ret
 exact ⟨rfl, rfl⟩
theorem s_b : CallsOk Tryz.prog 51 C_b := (src_sound w_b).ok (enter_ok Tryz.func51 (by decide +kernel) (by kernel_rfl))
/-! spec.l1Next -/
abbrev P_c : List PK := [.box [.dat Y22, .dat YI] [.dat Y22, .dat YI], .val YI]
abbrev R_c : List VK := [.s (.dat YI)]
def F_c (x : denP P_c) : Option (denV R_c × denQ P_c) :=
 let v1 := (IntKind.i64.wrap (x.1.2.1 + (1 : Int)))
 if (ltI x.2.1 (1 : Int)) then
 some (((0 : Int), ()), ((x.1.1, (v1, ())), ()))
 else
 let v2 := (IntKind.i64.wrap (v1 - (1 : Int)))
 let v3 := ((x.1.1.length : Nat) : Int)
 if (v3 == (0 : Int)) then
  let v4 := (IntKind.i64.wrap (v2 * (7 : Int)))
  if x.2.1 = 0 then none else
  let v5 := ((v4).tmod x.2.1)
  some ((v5, ()), ((x.1.1, (v1, ())), ()))
 else
  if v3 = 0 then none else
  let v6 := ((v2).tmod v3)
  if 0 ≤ v6 then
  ((x.1.1)[(v6).toNat]?).bind fun y7 =>
  let v8 := (IntKind.i64.wrap y7)
  if v3 = 0 then none else
  let v9 := (IntKind.i64.wrap ((v2).tdiv v3))
  let v10 := (IntKind.i64.wrap (v9 * (37 : Int)))
  let v11 := (IntKind.i64.wrap (v8 + v10))
  if (ltI (200 : Int) x.2.1) then
   let v12 := (IntKind.i64.wrap (v11 * (251 : Int)))
   let v13 := (IntKind.i64.wrap (v2 + (1 : Int)))
   if v3 = 0 then none else
   let v14 := ((v13).tmod v3)
   if 0 ≤ v14 then
   ((x.1.1)[(v14).toNat]?).bind fun y15 =>
   let v16 := (IntKind.i64.wrap y15)
   let v17 := (IntKind.i64.wrap (v16 * (13 : Int)))
   let v18 := (IntKind.i64.wrap (v12 + v17))
   let v19 := (IntKind.i64.wrap (v18 + v2))
   if x.2.1 = 0 then none else
   let v20 := ((v19).tmod x.2.1)
   some ((v20, ()), ((x.1.1, (v1, ())), ()))
   else none
  else
   if x.2.1 = 0 then none else
   let v21 := ((v11).tmod x.2.1)
   some ((v21, ()), ((x.1.1, (v1, ())), ()))
  else none
abbrev C_c : Con := ⟨P_c, R_c, F_c, false⟩
abbrev G_c : Env := []
theorem g_c : EnvOk Tryz.prog G_c := env_nil
theorem r_c (x) : runFn T G_c [] Tryz.f54 P_c R_c x = F_c x := by kernel_rfl
theorem s_c : CallsOk Tryz.prog 54 C_c :=
 fn_calls (L := []) hT g_c Tryz.f54 (by kernel_rfl) (by kernel_rfl) (by kernel_rfl) (plain_ok (by kernel_rfl)) r_c
/-! spec.l1In -/
abbrev P_d : List PK := [.val YI, .val YI, .val YI]
abbrev R_d : List VK := [.s (.dat .bool)]
def F_d (x : denP P_d) : Option (denV R_d × denQ P_d) :=
 if (leI x.2.1 x.1) = true then
 some (((leI x.1 x.2.2.1), ()), ())
 else
 some ((false, ()), ())
abbrev C_d : Con := ⟨P_d, R_d, F_d, false⟩
abbrev G_d : Env := []
theorem g_d : EnvOk Tryz.prog G_d := env_nil
theorem r_d (x) : runFn T G_d [] Tryz.f59 P_d R_d x = F_d x := by kernel_rfl
theorem s_d : CallsOk Tryz.prog 59 C_d :=
 fn_calls (L := []) hT g_d Tryz.f59 (by kernel_rfl) (by kernel_rfl) (by kernel_rfl) (plain_ok (by kernel_rfl)) r_d
/-! spec.l8Word -/
abbrev P_e : List PK := [.val YI]
abbrev R_e : List VK := [.s (.dat .bool)]
def F_e (x : denP P_e) : Option (denV R_e × denQ P_e) :=
 (F_d (x.1, (0 : Int), (4294967295 : Int), ())).bind fun r1 =>
 some ((r1.1.1, ()), ())
abbrev C_e : Con := ⟨P_e, R_e, F_e, false⟩
abbrev G_e : Env := [(59, C_d)]
theorem g_e : EnvOk Tryz.prog G_e := (env_cons s_d env_nil)
theorem r_e (x) : runFn T G_e [] Tryz.f218 P_e R_e x = F_e x := by kernel_rfl
theorem s_e : CallsOk Tryz.prog 218 C_e :=
 fn_calls (L := []) hT g_e Tryz.f218 (by kernel_rfl) (by kernel_rfl) (by kernel_rfl) (plain_ok (by kernel_rfl)) r_e
/-! spec.l8All -/
abbrev P_f : List PK := [.val Y24]
abbrev R_f : List VK := [.s (.dat .bool)]
abbrev i_f_2 : Shp := { slots := [(0, .s (.dat Y24)), (3, .s (.dat YI))], boxes := [], rows := [] }
abbrev o_f_2 : List (Ex × Shp) := [(.exit 0, { slots := [], boxes := [], rows := [] }), (.ret, { slots := [(2, .s (.dat .bool))], boxes := [], rows := [] })]
def l_f_2 (rec : i_f_2.den → Option (denO o_f_2)) (u2 : i_f_2.den) : Option (denO o_f_2) :=
 let v3 := ((u2.1.1.length : Nat) : Int)
 if (ltI u2.1.2.1 v3) then
 if 0 ≤ u2.1.2.1 then
  ((u2.1.1)[(u2.1.2.1).toNat]?).bind fun y4 =>
  (F_e (y4, ())).bind fun r5 =>
  if (!r5.1.1) then
  some (.inr (.inl ((false, ()), ((), ()))))
  else
  let v6 := (IntKind.i64.wrap (u2.1.2.1 + (1 : Int)))
  rec ((u2.1.1, (v6, ())), ((), ()))
 else none
 else
 some (.inl ((), ((), ())))
def L_f_2 (x : i_f_2.den) : Option (denO o_f_2) := iterF l_f_2 lots x
def F_f (x : denP P_f) : Option (denV R_f × denQ P_f) :=
 (L_f_2 ((x.1, ((0 : Int), ())), ((), ()))).bind fun z7 =>
 match z7 with
 | .inl x8 =>
 some ((true, ()), ())
 | .inr z7_ =>
 match z7_ with
 | .inl x9 =>
  some ((x9.1.1, ()), ())
 | .inr z7__ =>
  none
abbrev C_f : Con := ⟨P_f, R_f, F_f, false⟩
abbrev G_f : Env := [(218, C_e)]
theorem g_f : EnvOk Tryz.prog G_f := (env_cons s_e env_nil)
abbrev c_f_2 : Cut := ⟨i_f_2, o_f_2, fun x => iterF l_f_2 lots x⟩
theorem t_f_2 (rec x) : run T G_f [] (nav Tryz.f217 [1, 0, 1, 0, 0]) (mk 16 i_f_2 x) (loopK i_f_2 o_f_2 rec) = l_f_2 rec x := by kernel_rfl
theorem k_f_2 : CutOk Tryz.prog 16 (.loop (nav Tryz.f217 [1, 0, 1, 0, 0])) c_f_2 :=
 loop_cut (L := []) hT g_f t_f_2 (plain_ok (by kernel_rfl)) _
theorem r_f (x) : runFn T G_f [(2, c_f_2)] Tryz.f217 P_f R_f x = F_f x := by kernel_rfl
theorem s_f : CallsOk Tryz.prog 217 C_f :=
 fn_calls (L := [(2, c_f_2)]) hT g_f Tryz.f217 (by kernel_rfl) (by kernel_rfl) (by kernel_rfl) (seq_ok (plain_ok (by kernel_rfl)) (seq_ok (seq_ok (plain_ok (by kernel_rfl)) (block_ok (by kernel_rfl) (loop_ok (by kernel_rfl) k_f_2))) (plain_ok (by kernel_rfl)))) r_f
/-! spec.NewHart -/
abbrev P_g : List PK := [.val Y24]
abbrev R_g : List VK := [.g [.dat YI, .own 2 YI, .dat YI, .own 2 YI, .dat .bool, .dat .bool, .dat .bool, .dat YI, .own 2 YI, .own 2 YI]]
def F_g (x : denP P_g) : Option (denV R_g × denQ P_g) :=
 let v1 := ((x.1.length : Nat) : Int)
 if (ltI (40 : Int) v1) then
 some ((((2 : Int), (([] : List (den YI)), ((0 : Int), (([] : List (den YI)), (false, (false, (false, ((0 : Int), (([] : List (den YI)), (([] : List (den YI)), ())))))))))), ()), ())
 else
 (F_f (x.1, ())).bind fun r2 =>
 if (!r2.1.1) then
  some ((((3 : Int), (([] : List (den YI)), ((0 : Int), (([] : List (den YI)), (false, (false, (false, ((0 : Int), (([] : List (den YI)), (([] : List (den YI)), ())))))))))), ()), ())
 else
  if (([] : List (den YI)).length + x.1.length) * 8 ≤ 140737488355328 then
  let v3 := (([] : List (den YI)) ++ x.1)
  some ((((0 : Int), ((List.replicate ((16 : Int)).toNat (zeroD YI)), ((0 : Int), ((List.replicate ((11 : Int)).toNat (zeroD YI)), (false, (false, (false, ((0 : Int), (v3, (([] : List (den YI)), ())))))))))), ()), ())
  else none
abbrev C_g : Con := ⟨P_g, R_g, F_g, false⟩
abbrev G_g : Env := [(217, C_f)]
theorem g_g : EnvOk Tryz.prog G_g := (env_cons s_f env_nil)
theorem r_g (x) : runFn T G_g [] Tryz.f259 P_g R_g x = F_g x := by kernel_rfl
theorem s_g : CallsOk Tryz.prog 259 C_g :=
 fn_calls (L := []) hT g_g Tryz.f259 (by kernel_rfl) (by kernel_rfl) (by kernel_rfl) (plain_ok (by kernel_rfl)) r_g
/-! spec.l1Chance -/
abbrev P_h : List PK := [.box [.dat Y22, .dat YI] [.dat Y22, .dat YI], .val YI]
abbrev R_h : List VK := [.s (.dat .bool)]
def F_h (x : denP P_h) : Option (denV R_h × denQ P_h) :=
 (F_c (x.1, x.2.1, ())).bind fun r1 =>
 some (((r1.1.1 == (0 : Int)), ()), (r1.2.1, ()))
abbrev C_h : Con := ⟨P_h, R_h, F_h, false⟩
abbrev G_h : Env := [(54, C_c)]
theorem g_h : EnvOk Tryz.prog G_h := (env_cons s_c env_nil)
theorem r_h (x) : runFn T G_h [] Tryz.f132 P_h R_h x = F_h x := by kernel_rfl
theorem s_h : CallsOk Tryz.prog 132 C_h :=
 fn_calls (L := []) hT g_h Tryz.f132 (by kernel_rfl) (by kernel_rfl) (by kernel_rfl) (plain_ok (by kernel_rfl)) r_h
/-! spec.l1Pick -/
abbrev P_i : List PK := [.box [.dat Y22, .dat YI] [.dat Y22, .dat YI], .val Y24]
abbrev R_i : List VK := [.s (.dat YI)]
def F_i (x : denP P_i) : Option (denV R_i × denQ P_i) :=
 let v1 := ((x.2.1.length : Nat) : Int)
 (F_c (x.1, v1, ())).bind fun r2 =>
 if 0 ≤ r2.1.1 then
 ((x.2.1)[(r2.1.1).toNat]?).bind fun y3 =>
 some ((y3, ()), (r2.2.1, ()))
 else none
abbrev C_i : Con := ⟨P_i, R_i, F_i, false⟩
abbrev G_i : Env := [(54, C_c)]
theorem g_i : EnvOk Tryz.prog G_i := (env_cons s_c env_nil)
theorem r_i (x) : runFn T G_i [] Tryz.f53 P_i R_i x = F_i x := by kernel_rfl
theorem s_i : CallsOk Tryz.prog 53 C_i :=
 fn_calls (L := []) hT g_i Tryz.f53 (by kernel_rfl) (by kernel_rfl) (by kernel_rfl) (plain_ok (by kernel_rfl)) r_i
/-! spec.l1Word -/
abbrev P_j : List PK := [.box [.dat Y22, .dat YI] [.dat Y22, .dat YI]]
abbrev R_j : List VK := [.s (.dat YI)]
def F_j (x : denP P_j) : Option (denV R_j × denQ P_j) :=
 (F_c (x.1, (90 : Int), ())).bind fun r1 =>
 (F_c (r1.2.1, (9 : Int), ())).bind fun r2 =>
 (F_c (r2.2.1, (9 : Int), ())).bind fun r3 =>
 let v4 := (IntKind.i64.wrap ((4294967295 : Int) - r3.1.1))
 (F_c (r3.2.1, (60000 : Int), ())).bind fun r5 =>
 let v6 := (IntKind.i64.wrap (r5.1.1 * (70000 : Int)))
 (F_i (r5.2.1, [r1.1.1, r2.1.1, v4, (2147483648 : Int), (2147483647 : Int), (0 : Int), v6], ())).bind fun r7 =>
 some ((r7.1.1, ()), (r7.2.1, ()))
abbrev C_j : Con := ⟨P_j, R_j, F_j, false⟩
abbrev G_j : Env := [(53, C_i), (54, C_c)]
theorem g_j : EnvOk Tryz.prog G_j := (env_cons s_i (env_cons s_c env_nil))
theorem r_j (x) : runFn T G_j [] Tryz.f213 P_j R_j x = F_j x := by kernel_rfl
theorem s_j : CallsOk Tryz.prog 213 C_j :=
 fn_calls (L := []) hT g_j Tryz.f213 (by kernel_rfl) (by kernel_rfl) (by kernel_rfl) (plain_ok (by kernel_rfl)) r_j
/-! spec.WrapWord -/
abbrev P_k : List PK := [.val YI]
abbrev R_k : List VK := [.s (.dat YI)]
def F_k (x : denP P_k) : Option (denV R_k × denQ P_k) :=
 let v1 := (IntKind.u32.wrap x.1)
 let v2 := (IntKind.i64.wrap v1)
 some ((v2, ()), ())
abbrev C_k : Con := ⟨P_k, R_k, F_k, false⟩
abbrev G_k : Env := []
theorem g_k : EnvOk Tryz.prog G_k := env_nil
theorem r_k (x) : runFn T G_k [] Tryz.f274 P_k R_k x = F_k x := by kernel_rfl
theorem s_k : CallsOk Tryz.prog 274 C_k :=
 fn_calls (L := []) hT g_k Tryz.f274 (by kernel_rfl) (by kernel_rfl) (by kernel_rfl) (plain_ok (by kernel_rfl)) r_k
/-! spec.l8Set -/
abbrev P_l : List PK := [.box [.own 2 YI, .dat YI, .own 2 YI, .dat .bool, .dat .bool, .dat .bool, .dat YI, .dat Y24, .own 2 YI] [.own 2 YI, .dat YI, .own 2 YI, .dat .bool, .dat .bool, .dat .bool, .dat YI, .dat Y24, .own 2 YI], .val YI, .val YI]
abbrev R_l : List VK := []
def F_l (x : denP P_l) : Option (denV R_l × denQ P_l) :=
 (F_k (x.2.2.1, ())).bind fun r1 =>
 if (x.2.1 == (0 : Int)) then
 let v2 := ((r1.1.1).tmod (4 : Int))
 if 0 ≤ x.2.1 ∧ x.2.1 < ((x.1.2.2.1.length : Nat) : Int) then
  ((x.1.2.2.1)[(x.2.1).toNat]?).bind fun y3 =>
  let v4 := (x.1.2.2.1.set (x.2.1).toNat v2)
  some ((), ((x.1.1, (x.1.2.1, (v4, (x.1.2.2.2.1, (x.1.2.2.2.2.1, (x.1.2.2.2.2.2.1, (x.1.2.2.2.2.2.2.1, (x.1.2.2.2.2.2.2.2.1, (x.1.2.2.2.2.2.2.2.2.1, ()))))))))), ()))
 else none
 else
 if (x.2.1 == (7 : Int)) then
  let v5 := ((r1.1.1).tmod (8 : Int))
  if 0 ≤ x.2.1 ∧ x.2.1 < ((x.1.2.2.1.length : Nat) : Int) then
  ((x.1.2.2.1)[(x.2.1).toNat]?).bind fun y6 =>
  let v7 := (x.1.2.2.1.set (x.2.1).toNat v5)
  some ((), ((x.1.1, (x.1.2.1, (v7, (x.1.2.2.2.1, (x.1.2.2.2.2.1, (x.1.2.2.2.2.2.1, (x.1.2.2.2.2.2.2.1, (x.1.2.2.2.2.2.2.2.1, (x.1.2.2.2.2.2.2.2.2.1, ()))))))))), ()))
  else none
 else
  if (x.2.1 == (10 : Int)) then
  if 0 ≤ x.2.1 ∧ x.2.1 < ((x.1.2.2.1.length : Nat) : Int) then
   ((x.1.2.2.1)[(x.2.1).toNat]?).bind fun y8 =>
   let v9 := (x.1.2.2.1.set (x.2.1).toNat (0 : Int))
   if (leI r1.1.1 (8 : Int)) then
   if 0 ≤ x.2.1 ∧ x.2.1 < ((v9.length : Nat) : Int) then
    ((v9)[(x.2.1).toNat]?).bind fun y10 =>
    let v11 := (v9.set (x.2.1).toNat r1.1.1)
    some ((), ((x.1.1, (x.1.2.1, (v11, (x.1.2.2.2.1, (x.1.2.2.2.2.1, (x.1.2.2.2.2.2.1, (x.1.2.2.2.2.2.2.1, (x.1.2.2.2.2.2.2.2.1, (x.1.2.2.2.2.2.2.2.2.1, ()))))))))), ()))
   else none
   else
   some ((), ((x.1.1, (x.1.2.1, (v9, (x.1.2.2.2.1, (x.1.2.2.2.2.1, (x.1.2.2.2.2.2.1, (x.1.2.2.2.2.2.2.1, (x.1.2.2.2.2.2.2.2.1, (x.1.2.2.2.2.2.2.2.2.1, ()))))))))), ()))
  else none
  else
  if (x.2.1 == (6 : Int)) then
   if x.1.2.2.2.2.2.1 = true then
   let v12 := ((r1.1.1).tmod (4 : Int))
   some ((), ((x.1.1, (x.1.2.1, (x.1.2.2.1, (x.1.2.2.2.1, (x.1.2.2.2.2.1, ((ltI v12 (2 : Int)), (x.1.2.2.2.2.2.2.1, (x.1.2.2.2.2.2.2.2.1, (x.1.2.2.2.2.2.2.2.2.1, ()))))))))), ()))
   else
   some ((), ((x.1.1, (x.1.2.1, (x.1.2.2.1, (x.1.2.2.2.1, (x.1.2.2.2.2.1, (false, (x.1.2.2.2.2.2.2.1, (x.1.2.2.2.2.2.2.2.1, (x.1.2.2.2.2.2.2.2.2.1, ()))))))))), ()))
  else
   if (x.2.1 == (8 : Int)) then
   some ((), (x.1, ()))
   else
   if 0 ≤ x.2.1 ∧ x.2.1 < ((x.1.2.2.1.length : Nat) : Int) then
    ((x.1.2.2.1)[(x.2.1).toNat]?).bind fun y13 =>
    let v14 := (x.1.2.2.1.set (x.2.1).toNat r1.1.1)
    some ((), ((x.1.1, (x.1.2.1, (v14, (x.1.2.2.2.1, (x.1.2.2.2.2.1, (x.1.2.2.2.2.2.1, (x.1.2.2.2.2.2.2.1, (x.1.2.2.2.2.2.2.2.1, (x.1.2.2.2.2.2.2.2.2.1, ()))))))))), ()))
   else none
abbrev C_l : Con := ⟨P_l, R_l, F_l, false⟩
abbrev G_l : Env := [(274, C_k)]
theorem g_l : EnvOk Tryz.prog G_l := (env_cons s_k env_nil)
theorem r_l (x) : runFn T G_l [] Tryz.f227 P_l R_l x = F_l x := by kernel_rfl
theorem s_l : CallsOk Tryz.prog 227 C_l :=
 fn_calls (L := []) hT g_l Tryz.f227 (by kernel_rfl) (by kernel_rfl) (by kernel_rfl) (plain_ok (by kernel_rfl)) r_l
/-! spec.l8Hart -/
abbrev P_m : List PK := [.box [.dat Y22, .dat YI] [.dat Y22, .dat YI]]
abbrev R_m : List VK := [.g [.own 2 YI, .dat YI, .own 2 YI, .dat .bool, .dat .bool, .dat .bool, .dat YI, .dat Y24, .own 2 YI]]
abbrev i_m_10 : Shp := { slots := [(0, .s (.ptr 9000000 0)), (2, .s (.ptr 2 0)), (3, .s (.ptr 3 0)), (5, .s (.dat YI))], boxes := [(2, [.own 2 YI, .dat YI, .own 2 YI, .dat .bool, .dat .bool, .dat .bool, .dat YI, .own 2 YI, .own 2 YI]), (3, [.own 2 YI, .dat YI, .own 2 YI, .dat .bool, .dat .bool, .dat .bool, .dat YI, .dat Y24, .own 2 YI]), (9000000, [.dat Y22, .dat YI])], rows := [] }
abbrev o_m_10 : List (Ex × Shp) := [(.exit 2, { slots := [(0, .s (.ptr 9000000 0)), (2, .s (.ptr 2 0)), (3, .s (.ptr 3 0))], boxes := [(2, [.own 2 YI, .dat YI, .own 2 YI, .dat .bool, .dat .bool, .dat .bool, .dat YI, .own 2 YI, .own 2 YI]), (3, [.own 2 YI, .dat YI, .own 2 YI, .dat .bool, .dat .bool, .dat .bool, .dat YI, .dat Y24, .own 2 YI]), (9000000, [.dat Y22, .dat YI])], rows := [] })]
def l_m_10 (rec : i_m_10.den → Option (denO o_m_10)) (u10 : i_m_10.den) : Option (denO o_m_10) :=
 if (ltI u10.1.2.2.2.1 (11 : Int)) then
 (F_h (u10.2.1.2.2.1, (2 : Int), ())).bind fun r38 =>
 if r38.1.1 then
  (F_c (r38.2.1, (9 : Int), ())).bind fun r39 =>
  (F_c (r39.2.1, (60 : Int), ())).bind fun r40 =>
  (F_j (r40.2.1, ())).bind fun r41 =>
  (F_i (r41.2.1, [r39.1.1, r40.1.1, r41.1.1], ())).bind fun r42 =>
  (F_l (u10.2.1.2.1, u10.1.2.2.2.1, r42.1.1, ())).bind fun r43 =>
  let v44 := (IntKind.i64.wrap (u10.1.2.2.2.1 + (1 : Int)))
  rec (((), ((), ((), (v44, ())))), ((u10.2.1.1, (r43.2.1, (r42.2.1, ()))), ()))
 else
  let v45 := (IntKind.i64.wrap (u10.1.2.2.2.1 + (1 : Int)))
  rec (((), ((), ((), (v45, ())))), ((u10.2.1.1, (u10.2.1.2.1, (r38.2.1, ()))), ()))
 else
 some (.inl (((), ((), ((), ()))), ((u10.2.1.1, (u10.2.1.2.1, (u10.2.1.2.2.1, ()))), ())))
def L_m_10 (x : i_m_10.den) : Option (denO o_m_10) := iterF l_m_10 lots x
abbrev i_m_3 : Shp := { slots := [(0, .s (.ptr 9000000 0)), (2, .s (.ptr 2 0)), (3, .s (.ptr 3 0)), (4, .s (.dat YI))], boxes := [(2, [.own 2 YI, .dat YI, .own 2 YI, .dat .bool, .dat .bool, .dat .bool, .dat YI, .own 2 YI, .own 2 YI]), (3, [.own 2 YI, .dat YI, .own 2 YI, .dat .bool, .dat .bool, .dat .bool, .dat YI, .own 2 YI, .own 2 YI]), (9000000, [.dat Y22, .dat YI])], rows := [] }
abbrev o_m_3 : List (Ex × Shp) := [(.exit 0, { slots := [(0, .s (.ptr 9000000 0)), (2, .s (.ptr 2 0)), (3, .s (.ptr 3 0))], boxes := [(2, [.own 2 YI, .dat YI, .own 2 YI, .dat .bool, .dat .bool, .dat .bool, .dat YI, .own 2 YI, .own 2 YI]), (3, [.own 2 YI, .dat YI, .own 2 YI, .dat .bool, .dat .bool, .dat .bool, .dat YI, .own 2 YI, .own 2 YI]), (9000000, [.dat Y22, .dat YI])], rows := [] })]
def l_m_3 (rec : i_m_3.den → Option (denO o_m_3)) (u3 : i_m_3.den) : Option (denO o_m_3) :=
 if (ltI u3.1.2.2.2.1 (16 : Int)) then
 (F_h (u3.2.1.2.2.1, (3 : Int), ())).bind fun r9 =>
 if r9.1.1 then
  (F_j (r9.2.1, ())).bind fun r10 =>
  (F_c (r10.2.1, (64 : Int), ())).bind fun r11 =>
  (F_c (r11.2.1, (8 : Int), ())).bind fun r12 =>
  let v13 := (IntKind.i64.wrap ((56 : Int) + r12.1.1))
  (F_i (r12.2.1, [r10.1.1, r11.1.1, v13], ())).bind fun r14 =>
  if 0 ≤ u3.1.2.2.2.1 ∧ u3.1.2.2.2.1 < ((u3.2.1.2.1.1.length : Nat) : Int) then
  ((u3.2.1.2.1.1)[(u3.1.2.2.2.1).toNat]?).bind fun y15 =>
  let v16 := (u3.2.1.2.1.1.set (u3.1.2.2.2.1).toNat r14.1.1)
  let v17 := (IntKind.i64.wrap (u3.1.2.2.2.1 + (1 : Int)))
  rec (((), ((), ((), (v17, ())))), ((u3.2.1.1, ((v16, (u3.2.1.2.1.2.1, (u3.2.1.2.1.2.2.1, (u3.2.1.2.1.2.2.2.1, (u3.2.1.2.1.2.2.2.2.1, (u3.2.1.2.1.2.2.2.2.2.1, (u3.2.1.2.1.2.2.2.2.2.2.1, (u3.2.1.2.1.2.2.2.2.2.2.2.1, (u3.2.1.2.1.2.2.2.2.2.2.2.2.1, ()))))))))), (r14.2.1, ()))), ()))
  else none
 else
  let v18 := (IntKind.i64.wrap (u3.1.2.2.2.1 + (1 : Int)))
  rec (((), ((), ((), (v18, ())))), ((u3.2.1.1, (u3.2.1.2.1, (r9.2.1, ()))), ()))
 else
 some (.inl (((), ((), ((), ()))), ((u3.2.1.1, (u3.2.1.2.1, (u3.2.1.2.2.1, ()))), ())))
def L_m_3 (x : i_m_3.den) : Option (denO o_m_3) := iterF l_m_3 lots x
def F_m (x : denP P_m) : Option (denV R_m × denQ P_m) :=
 (F_c (x.1, (3 : Int), ())).bind fun r1 =>
 if 0 ≤ (0 : Int) ∧ (0 : Int) ≤ r1.1.1 ∧ r1.1.1 ≤ (([(7 : Int), (8 : Int)].length : Nat) : Int) then
 (F_g ((([(7 : Int), (8 : Int)].drop (0 + ((0 : Int)).toNat)).take ((r1.1.1).toNat - ((0 : Int)).toNat)), ())).bind fun r2 =>
 (L_m_3 (((), ((), ((), ((1 : Int), ())))), (((([] : List (den YI)), ((0 : Int), (([] : List (den YI)), (false, (false, (false, ((0 : Int), (([] : List (den YI)), (([] : List (den YI)), ()))))))))), ((r2.1.1.2.1, (r2.1.1.2.2.1, (r2.1.1.2.2.2.1, (r2.1.1.2.2.2.2.1, (r2.1.1.2.2.2.2.2.1, (r2.1.1.2.2.2.2.2.2.1, (r2.1.1.2.2.2.2.2.2.2.1, (r2.1.1.2.2.2.2.2.2.2.2.1, (r2.1.1.2.2.2.2.2.2.2.2.2.1, ()))))))))), (r1.2.1, ()))), ()))).bind fun z19 =>
 match z19 with
 | .inl x20 =>
  (F_c (x20.2.1.2.2.1, (24 : Int), ())).bind fun r21 =>
  (F_c (r21.2.1, (24 : Int), ())).bind fun r22 =>
  (F_j (r22.2.1, ())).bind fun r23 =>
  (F_i (r23.2.1, [r21.1.1, r22.1.1, r23.1.1], ())).bind fun r24 =>
  (F_c (r24.2.1, (90 : Int), ())).bind fun r25 =>
  (L_m_10 (((), ((), ((), ((0 : Int), ())))), ((x20.2.1.1, ((x20.2.1.2.1.1, (r24.1.1, (x20.2.1.2.1.2.2.1, (x20.2.1.2.1.2.2.2.1, (x20.2.1.2.1.2.2.2.2.1, (x20.2.1.2.1.2.2.2.2.2.1, (r25.1.1, (x20.2.1.2.1.2.2.2.2.2.2.2.1, (x20.2.1.2.1.2.2.2.2.2.2.2.2.1, ()))))))))), (r25.2.1, ()))), ()))).bind fun z46 =>
  match z46 with
  | .inl x47 =>
  (F_h (x47.2.1.2.2.1, (3 : Int), ())).bind fun r48 =>
  (F_h (r48.2.1, (8 : Int), ())).bind fun r49 =>
  (F_h (r49.2.1, (20 : Int), ())).bind fun r50 =>
  (F_h (r50.2.1, (20 : Int), ())).bind fun r51 =>
  if r51.1.1 then
   some (((x47.2.1.2.1.1, (x47.2.1.2.1.2.1, (x47.2.1.2.1.2.2.1, (r50.1.1, (r49.1.1, (r48.1.1, (x47.2.1.2.1.2.2.2.2.2.2.1, (x47.2.1.2.1.2.2.2.2.2.2.2.1, ((List.replicate ((40 : Int)).toNat (zeroD YI)), ()))))))))), ()), (r51.2.1, ()))
  else
   some (((x47.2.1.2.1.1, (x47.2.1.2.1.2.1, (x47.2.1.2.1.2.2.1, (r50.1.1, (r49.1.1, (r48.1.1, (x47.2.1.2.1.2.2.2.2.2.2.1, (x47.2.1.2.1.2.2.2.2.2.2.2.1, (x47.2.1.2.1.2.2.2.2.2.2.2.2.1, ()))))))))), ()), (r51.2.1, ()))
  | .inr z46_ =>
  none
 | .inr z19_ =>
  none
 else none
abbrev C_m : Con := ⟨P_m, R_m, F_m, false⟩
abbrev G_m : Env := [(53, C_i), (54, C_c), (132, C_h), (213, C_j), (227, C_l), (259, C_g)]
theorem g_m : EnvOk Tryz.prog G_m := (env_cons s_i (env_cons s_c (env_cons s_h (env_cons s_j (env_cons s_l (env_cons s_g env_nil))))))
abbrev c_m_10 : Cut := ⟨i_m_10, o_m_10, fun x => iterF l_m_10 lots x⟩
theorem t_m_10 (rec x) : run T G_m [] (nav Tryz.f209 [1, 1, 1, 1, 1, 0, 1, 0, 0]) (mk 76 i_m_10 x) (loopK i_m_10 o_m_10 rec) = l_m_10 rec x := by kernel_rfl
theorem k_m_10 : CutOk Tryz.prog 76 (.loop (nav Tryz.f209 [1, 1, 1, 1, 1, 0, 1, 0, 0])) c_m_10 :=
 loop_cut (L := []) hT g_m t_m_10 (plain_ok (by kernel_rfl)) _
abbrev c_m_3 : Cut := ⟨i_m_3, o_m_3, fun x => iterF l_m_3 lots x⟩
theorem t_m_3 (rec x) : run T G_m [] (nav Tryz.f209 [1, 1, 0, 1, 0, 0]) (mk 76 i_m_3 x) (loopK i_m_3 o_m_3 rec) = l_m_3 rec x := by kernel_rfl
theorem k_m_3 : CutOk Tryz.prog 76 (.loop (nav Tryz.f209 [1, 1, 0, 1, 0, 0])) c_m_3 :=
 loop_cut (L := []) hT g_m t_m_3 (plain_ok (by kernel_rfl)) _
theorem r_m (x) : runFn T G_m [(10, c_m_10), (3, c_m_3)] Tryz.f209 P_m R_m x = F_m x := by kernel_rfl
theorem s_m : CallsOk Tryz.prog 209 C_m :=
 fn_calls (L := [(10, c_m_10), (3, c_m_3)]) hT g_m Tryz.f209 (by kernel_rfl) (by kernel_rfl) (by kernel_rfl) (seq_ok (plain_ok (by kernel_rfl)) (seq_ok (plain_ok (by kernel_rfl)) (seq_ok (seq_ok (plain_ok (by kernel_rfl)) (block_ok (by kernel_rfl) (loop_ok (by kernel_rfl) k_m_3))) (seq_ok (plain_ok (by kernel_rfl)) (seq_ok (plain_ok (by kernel_rfl)) (seq_ok (seq_ok (plain_ok (by kernel_rfl)) (block_ok (by kernel_rfl) (loop_ok (by kernel_rfl) k_m_10))) (plain_ok (by kernel_rfl)))))))) r_m
/-! spec.l8Bent -/
abbrev P_n : List PK := [.box [.dat Y22, .dat YI] [.dat Y22, .dat YI]]
abbrev R_n : List VK := [.g [.dat Y24, .dat YI, .own 2 YI, .dat .bool, .dat .bool, .dat .bool, .dat YI, .dat Y24, .own 2 YI]]
def F_n (x : denP P_n) : Option (denV R_n × denQ P_n) :=
 (F_m (x.1, ())).bind fun r1 =>
 (F_c (r1.2.1, (20 : Int), ())).bind fun r2 =>
 if (r2.1.1 == (0 : Int)) then
 if 0 ≤ (0 : Int) ∧ (0 : Int) < ((r1.1.1.1.length : Nat) : Int) then
  ((r1.1.1.1)[((0 : Int)).toNat]?).bind fun y3 =>
  let v4 := (r1.1.1.1.set ((0 : Int)).toNat (1 : Int))
  some (((v4, (r1.1.1.2.1, (r1.1.1.2.2.1, (r1.1.1.2.2.2.1, (r1.1.1.2.2.2.2.1, (r1.1.1.2.2.2.2.2.1, (r1.1.1.2.2.2.2.2.2.1, (r1.1.1.2.2.2.2.2.2.2.1, (r1.1.1.2.2.2.2.2.2.2.2.1, ()))))))))), ()), (r2.2.1, ()))
 else none
 else
 if (r2.1.1 == (1 : Int)) then
  if 0 ≤ (1 : Int) ∧ (1 : Int) ≤ ((r1.1.1.1.length : Nat) : Int) ∧ ((r1.1.1.1.length : Nat) : Int) ≤ ((r1.1.1.1.length : Nat) : Int) then
  some (((((r1.1.1.1.drop (0 + ((1 : Int)).toNat)).take ((((r1.1.1.1.length : Nat) : Int)).toNat - ((1 : Int)).toNat)), (r1.1.1.2.1, (r1.1.1.2.2.1, (r1.1.1.2.2.2.1, (r1.1.1.2.2.2.2.1, (r1.1.1.2.2.2.2.2.1, (r1.1.1.2.2.2.2.2.2.1, (r1.1.1.2.2.2.2.2.2.2.1, (r1.1.1.2.2.2.2.2.2.2.2.1, ()))))))))), ()), (r2.2.1, ()))
  else none
 else
  if (r2.1.1 == (2 : Int)) then
  (F_c (r2.2.1, (11 : Int), ())).bind fun r5 =>
  (F_i (r5.2.1, [(-1 : Int), (4 : Int), (9 : Int), (4294967296 : Int)], ())).bind fun r6 =>
  if 0 ≤ r5.1.1 ∧ r5.1.1 < ((r1.1.1.2.2.1.length : Nat) : Int) then
   ((r1.1.1.2.2.1)[(r5.1.1).toNat]?).bind fun y7 =>
   let v8 := (r1.1.1.2.2.1.set (r5.1.1).toNat r6.1.1)
   some (((r1.1.1.1, (r1.1.1.2.1, (v8, (r1.1.1.2.2.2.1, (r1.1.1.2.2.2.2.1, (r1.1.1.2.2.2.2.2.1, (r1.1.1.2.2.2.2.2.2.1, (r1.1.1.2.2.2.2.2.2.2.1, (r1.1.1.2.2.2.2.2.2.2.2.1, ()))))))))), ()), (r6.2.1, ()))
  else none
  else
  if (r2.1.1 == (3 : Int)) then
   (F_i (r2.2.1, [(-1 : Int), (4294967296 : Int)], ())).bind fun r9 =>
   some (((r1.1.1.1, (r9.1.1, (r1.1.1.2.2.1, (r1.1.1.2.2.2.1, (r1.1.1.2.2.2.2.1, (r1.1.1.2.2.2.2.2.1, (r1.1.1.2.2.2.2.2.2.1, (r1.1.1.2.2.2.2.2.2.2.1, (r1.1.1.2.2.2.2.2.2.2.2.1, ()))))))))), ()), (r9.2.1, ()))
  else
   if (r2.1.1 == (4 : Int)) then
   some (((r1.1.1.1, (r1.1.1.2.1, (r1.1.1.2.2.1, (r1.1.1.2.2.2.1, (r1.1.1.2.2.2.2.1, (r1.1.1.2.2.2.2.2.1, (r1.1.1.2.2.2.2.2.2.1, ((List.replicate ((41 : Int)).toNat (zeroD YI)), (r1.1.1.2.2.2.2.2.2.2.2.1, ()))))))))), ()), (r2.2.1, ()))
   else
   if (r2.1.1 == (5 : Int)) then
    (F_i (r2.2.1, [(-1 : Int), (1000000000 : Int), (1000000001 : Int)], ())).bind fun r10 =>
    some (((r1.1.1.1, (r1.1.1.2.1, (r1.1.1.2.2.1, (r1.1.1.2.2.2.1, (r1.1.1.2.2.2.2.1, (r1.1.1.2.2.2.2.2.1, (r10.1.1, (r1.1.1.2.2.2.2.2.2.2.1, (r1.1.1.2.2.2.2.2.2.2.2.1, ()))))))))), ()), (r10.2.1, ()))
   else
    some ((r1.1.1, ()), (r2.2.1, ()))
abbrev C_n : Con := ⟨P_n, R_n, F_n, false⟩
abbrev G_n : Env := [(53, C_i), (54, C_c), (209, C_m)]
theorem g_n : EnvOk Tryz.prog G_n := (env_cons s_i (env_cons s_c (env_cons s_m env_nil)))
theorem r_n (x) : runFn T G_n [] Tryz.f130 P_n R_n x = F_n x := by kernel_rfl
theorem s_n : CallsOk Tryz.prog 130 C_n :=
 fn_calls (L := []) hT g_n Tryz.f130 (by kernel_rfl) (by kernel_rfl) (by kernel_rfl) (plain_ok (by kernel_rfl)) r_n
/-! spec.l4None -/
abbrev P_o : List PK := []
abbrev R_o : List VK := [.s (.dat Y40)]
def F_o (x : denP P_o) : Option (denV R_o × denQ P_o) :=
 some ((((-1 : Int), ((0 : Int), ())), ()), ())
abbrev C_o : Con := ⟨P_o, R_o, F_o, false⟩
abbrev G_o : Env := []
theorem g_o : EnvOk Tryz.prog G_o := env_nil
theorem r_o (x) : runFn T G_o [] Tryz.f251 P_o R_o x = F_o x := by kernel_rfl
theorem s_o : CallsOk Tryz.prog 251 C_o :=
 fn_calls (L := []) hT g_o Tryz.f251 (by kernel_rfl) (by kernel_rfl) (by kernel_rfl) (plain_ok (by kernel_rfl)) r_o
/-! spec.l4Pages -/
abbrev P_p : List PK := [.box [.dat Y22, .dat YI] [.dat Y22, .dat YI], .val YI]
abbrev R_p : List VK := [.s (.own 41 Y40)]
abbrev i_p_3 : Shp := { slots := [(0, .s (.ptr 9000000 0)), (1, .s (.dat YI)), (5, .s (.own 41 Y40)), (6, .s (.dat YI))], boxes := [(9000000, [.dat Y22, .dat YI])], rows := [] }
abbrev o_p_3 : List (Ex × Shp) := [(.exit 0, { slots := [(5, .s (.own 41 Y40))], boxes := [(9000000, [.dat Y22, .dat YI])], rows := [] })]
def l_p_3 (rec : i_p_3.den → Option (denO o_p_3)) (u3 : i_p_3.den) : Option (denO o_p_3) :=
 if (ltI u3.1.2.2.2.1 (8 : Int)) then
 (F_c (u3.2.1.1, u3.1.2.1, ())).bind fun r5 =>
 (F_i (r5.2.1, [(7 : Int), (3 : Int), (1 : Int), (5 : Int), (2 : Int), (4 : Int)], ())).bind fun r6 =>
 (F_h (r6.2.1, (4 : Int), ())).bind fun r7 =>
 if r7.1.1 then
  (F_o ()).bind fun r8 =>
  if (u3.1.2.2.1.length + [r8.1.1].length) * 16 ≤ 140737488355328 then
  let v9 := (u3.1.2.2.1 ++ [r8.1.1])
  let v10 := (IntKind.i64.wrap (u3.1.2.2.2.1 + (1 : Int)))
  rec (((), (u3.1.2.1, (v9, (v10, ())))), ((r7.2.1, ()), ()))
  else none
 else
  if (u3.1.2.2.1.length + [(r5.1.1, (r6.1.1, ()))].length) * 16 ≤ 140737488355328 then
  let v11 := (u3.1.2.2.1 ++ [(r5.1.1, (r6.1.1, ()))])
  let v12 := (IntKind.i64.wrap (u3.1.2.2.2.1 + (1 : Int)))
  rec (((), (u3.1.2.1, (v11, (v12, ())))), ((r7.2.1, ()), ()))
  else none
 else
 some (.inl ((u3.1.2.2.1, ()), ((u3.2.1.1, ()), ())))
def L_p_3 (x : i_p_3.den) : Option (denO o_p_3) := iterF l_p_3 lots x
def F_p (x : denP P_p) : Option (denV R_p × denQ P_p) :=
 (L_p_3 (((), (x.2.1, (([] : List (den Y40)), ((0 : Int), ())))), ((x.1, ()), ()))).bind fun z13 =>
 match z13 with
 | .inl x14 =>
 some ((x14.1.1, ()), (x14.2.1.1, ()))
 | .inr z13_ =>
 none
abbrev C_p : Con := ⟨P_p, R_p, F_p, false⟩
abbrev G_p : Env := [(53, C_i), (54, C_c), (132, C_h), (251, C_o)]
theorem g_p : EnvOk Tryz.prog G_p := (env_cons s_i (env_cons s_c (env_cons s_h (env_cons s_o env_nil))))
abbrev c_p_3 : Cut := ⟨i_p_3, o_p_3, fun x => iterF l_p_3 lots x⟩
theorem t_p_3 (rec x) : run T G_p [] (nav Tryz.f210 [1, 1, 0, 1, 0, 0]) (mk 28 i_p_3 x) (loopK i_p_3 o_p_3 rec) = l_p_3 rec x := by kernel_rfl
theorem k_p_3 : CutOk Tryz.prog 28 (.loop (nav Tryz.f210 [1, 1, 0, 1, 0, 0])) c_p_3 :=
 loop_cut (L := []) hT g_p t_p_3 (plain_ok (by kernel_rfl)) _
theorem r_p (x) : runFn T G_p [(3, c_p_3)] Tryz.f210 P_p R_p x = F_p x := by kernel_rfl
theorem s_p : CallsOk Tryz.prog 210 C_p :=
 fn_calls (L := [(3, c_p_3)]) hT g_p Tryz.f210 (by kernel_rfl) (by kernel_rfl) (by kernel_rfl) (seq_ok (plain_ok (by kernel_rfl)) (seq_ok (plain_ok (by kernel_rfl)) (seq_ok (seq_ok (plain_ok (by kernel_rfl)) (block_ok (by kernel_rfl) (loop_ok (by kernel_rfl) k_p_3))) (plain_ok (by kernel_rfl))))) r_p
/-! spec.l4Bent -/
abbrev P_q : List PK := [.box [.dat Y22, .dat YI] [.dat Y22, .dat YI], .val YI]
abbrev R_q : List VK := [.s (.vw 41 Y40)]
def F_q (x : denP P_q) : Option (denV R_q × denQ P_q) :=
 (F_p (x.1, x.2.1, ())).bind fun r1 =>
 (F_c (r1.2.1, (8 : Int), ())).bind fun r2 =>
 (F_c (r2.2.1, (20 : Int), ())).bind fun r3 =>
 if (r3.1.1 == (0 : Int)) then
 (F_i (r3.2.1, [(-2 : Int), x.2.1, (-1 : Int)], ())).bind fun r4 =>
 if 0 ≤ r2.1.1 ∧ r2.1.1 < ((r1.1.1.length : Nat) : Int) then
  ((r1.1.1)[(r2.1.1).toNat]?).bind fun y5 =>
  let v6 := (r1.1.1.set (r2.1.1).toNat (r4.1.1, y5.2))
  some (((v6, ((0 : Nat), v6.length)), ()), (r4.2.1, ()))
 else none
 else
 if (r3.1.1 == (1 : Int)) then
  (F_i (r3.2.1, [(-1 : Int), (8 : Int), (0 : Int), (7 : Int)], ())).bind fun r7 =>
  if 0 ≤ r2.1.1 ∧ r2.1.1 < ((r1.1.1.length : Nat) : Int) then
  ((r1.1.1)[(r2.1.1).toNat]?).bind fun y8 =>
  let v9 := (r1.1.1.set (r2.1.1).toNat (y8.1, (r7.1.1, y8.2.2)))
  some (((v9, ((0 : Nat), v9.length)), ()), (r7.2.1, ()))
  else none
 else
  if (r3.1.1 == (2 : Int)) then
  if 0 ≤ (1 : Int) ∧ (1 : Int) ≤ ((r1.1.1.length : Nat) : Int) ∧ ((r1.1.1.length : Nat) : Int) ≤ ((r1.1.1.length : Nat) : Int) then
   some (((r1.1.1, ((0 + ((1 : Int)).toNat), ((((r1.1.1.length : Nat) : Int)).toNat - ((1 : Int)).toNat))), ()), (r3.2.1, ()))
  else none
  else
  some (((r1.1.1, ((0 : Nat), r1.1.1.length)), ()), (r3.2.1, ()))
abbrev C_q : Con := ⟨P_q, R_q, F_q, false⟩
abbrev G_q : Env := [(53, C_i), (54, C_c), (210, C_p)]
theorem g_q : EnvOk Tryz.prog G_q := (env_cons s_i (env_cons s_c (env_cons s_p env_nil)))
theorem r_q (x) : runFn T G_q [] Tryz.f131 P_q R_q x = F_q x := by kernel_rfl
theorem s_q : CallsOk Tryz.prog 131 C_q :=
 fn_calls (L := []) hT g_q Tryz.f131 (by kernel_rfl) (by kernel_rfl) (by kernel_rfl) (plain_ok (by kernel_rfl)) r_q
/-! spec.NewMemory -/
abbrev P_r : List PK := [.val YI]
abbrev R_r : List VK := [.g [.dat YI, .own 2 YI]]
def F_r (x : denP P_r) : Option (denV R_r × denQ P_r) :=
 (F_d (x.1, (1 : Int), (24 : Int), ())).bind fun r1 =>
 if (!r1.1.1) then
 some ((((3 : Int), (([] : List (den YI)), ())), ()), ())
 else
 let v2 := (IntKind.i64.wrap (x.1 * (8 : Int)))
 if v2 = v2 ∧ 0 ≤ v2 ∧ v2 * 8 ≤ 140737488355328 ∧ v2 ≤ 9223372036854775807 then
  some ((((0 : Int), ((List.replicate (v2).toNat (zeroD YI)), ())), ()), ())
 else none
abbrev C_r : Con := ⟨P_r, R_r, F_r, false⟩
abbrev G_r : Env := [(59, C_d)]
theorem g_r : EnvOk Tryz.prog G_r := (env_cons s_d env_nil)
theorem r_r (x) : runFn T G_r [] Tryz.f133 P_r R_r x = F_r x := by kernel_rfl
theorem s_r : CallsOk Tryz.prog 133 C_r :=
 fn_calls (L := []) hT g_r Tryz.f133 (by kernel_rfl) (by kernel_rfl) (by kernel_rfl) (plain_ok (by kernel_rfl)) r_r
/-! spec.l2Bare -/
abbrev P_s : List PK := [.val YI]
abbrev R_s : List VK := [.s (.dat .bool), .s (.dat .bool), .s (.dat .bool)]
def F_s (x : denP P_s) : Option (denV R_s × denQ P_s) :=
 if (x.1 == (13 : Int)) then
 some ((false, true, false, ()), ())
 else
 if (x.1 == (19 : Int)) then
  some ((false, true, false, ()), ())
 else
  if (x.1 == (21 : Int)) then
  some ((false, true, false, ()), ())
  else
  if (x.1 == (22 : Int)) then
   some ((true, false, false, ()), ())
  else
   if (x.1 == (23 : Int)) then
   some ((true, true, true, ()), ())
   else
   if (x.1 == (24 : Int)) then
    some ((true, true, true, ()), ())
   else
    if (x.1 == (25 : Int)) then
    some ((true, true, true, ()), ())
    else
    if (x.1 == (26 : Int)) then
     some ((true, true, true, ()), ())
    else
     some ((false, false, false, ()), ())
abbrev C_s : Con := ⟨P_s, R_s, F_s, false⟩
abbrev G_s : Env := []
theorem g_s : EnvOk Tryz.prog G_s := env_nil
theorem r_s (x) : runFn T G_s [] Tryz.f270 P_s R_s x = F_s x := by kernel_rfl
theorem s_s : CallsOk Tryz.prog 270 C_s :=
 fn_calls (L := []) hT g_s Tryz.f270 (by kernel_rfl) (by kernel_rfl) (by kernel_rfl) (plain_ok (by kernel_rfl)) r_s
/-! spec.l2Ins -/
abbrev P_t : List PK := [.box [.dat Y22, .dat YI] [.dat Y22, .dat YI]]
abbrev R_t : List VK := [.s (.dat Y42)]
def F_t (x : denP P_t) : Option (denV R_t × denQ P_t) :=
 (F_c (x.1, (26 : Int), ())).bind fun r1 =>
 let v2 := (IntKind.i64.wrap ((1 : Int) + r1.1.1))
 (F_c (r1.2.1, (16 : Int), ())).bind fun r3 =>
 (F_c (r3.2.1, (16 : Int), ())).bind fun r4 =>
 (F_c (r4.2.1, (16 : Int), ())).bind fun r5 =>
 (F_c (r5.2.1, (64 : Int), ())).bind fun r6 =>
 (F_c (r6.2.1, (8 : Int), ())).bind fun r7 =>
 let v8 := (IntKind.i64.wrap ((65535 : Int) - r7.1.1))
 (F_i (r7.2.1, [r5.1.1, r6.1.1, v8], ())).bind fun r9 =>
 (F_s (v2, ())).bind fun r10 =>
 if r10.1.1 then
 if r10.1.2.1 then
  if r10.1.2.2.1 then
  if (leI v2 (11 : Int)) then
   let v11 := (((0 : Int)).tmod (16 : Int))
   if (v2 == (21 : Int)) = false then
   if (v2 == (22 : Int)) then
    let v12 := ((v11).tmod (11 : Int))
    some (((v2, ((0 : Int), ((0 : Int), (v12, ())))), ()), (r9.2.1, ()))
   else
    some (((v2, ((0 : Int), ((0 : Int), (v11, ())))), ()), (r9.2.1, ()))
   else
   let v13 := ((v11).tmod (11 : Int))
   some (((v2, ((0 : Int), ((0 : Int), (v13, ())))), ()), (r9.2.1, ()))
  else
   if (v2 == (21 : Int)) = false then
   if (v2 == (22 : Int)) then
    let v14 := (((0 : Int)).tmod (11 : Int))
    some (((v2, ((0 : Int), ((0 : Int), (v14, ())))), ()), (r9.2.1, ()))
   else
    some (((v2, ((0 : Int), ((0 : Int), ((0 : Int), ())))), ()), (r9.2.1, ()))
   else
   let v15 := (((0 : Int)).tmod (11 : Int))
   some (((v2, ((0 : Int), ((0 : Int), (v15, ())))), ()), (r9.2.1, ()))
  else
  if (leI v2 (11 : Int)) then
   let v16 := ((r9.1.1).tmod (16 : Int))
   if (v2 == (21 : Int)) = false then
   if (v2 == (22 : Int)) then
    let v17 := ((v16).tmod (11 : Int))
    some (((v2, ((0 : Int), ((0 : Int), (v17, ())))), ()), (r9.2.1, ()))
   else
    some (((v2, ((0 : Int), ((0 : Int), (v16, ())))), ()), (r9.2.1, ()))
   else
   let v18 := ((v16).tmod (11 : Int))
   some (((v2, ((0 : Int), ((0 : Int), (v18, ())))), ()), (r9.2.1, ()))
  else
   if (v2 == (21 : Int)) = false then
   if (v2 == (22 : Int)) then
    let v19 := ((r9.1.1).tmod (11 : Int))
    some (((v2, ((0 : Int), ((0 : Int), (v19, ())))), ()), (r9.2.1, ()))
   else
    some (((v2, ((0 : Int), ((0 : Int), (r9.1.1, ())))), ()), (r9.2.1, ()))
   else
   let v20 := ((r9.1.1).tmod (11 : Int))
   some (((v2, ((0 : Int), ((0 : Int), (v20, ())))), ()), (r9.2.1, ()))
 else
  if r10.1.2.2.1 then
  if (leI v2 (11 : Int)) then
   let v21 := (((0 : Int)).tmod (16 : Int))
   if (v2 == (21 : Int)) = false then
   if (v2 == (22 : Int)) then
    let v22 := ((v21).tmod (11 : Int))
    some (((v2, ((0 : Int), (r4.1.1, (v22, ())))), ()), (r9.2.1, ()))
   else
    some (((v2, ((0 : Int), (r4.1.1, (v21, ())))), ()), (r9.2.1, ()))
   else
   let v23 := ((v21).tmod (11 : Int))
   some (((v2, ((0 : Int), (r4.1.1, (v23, ())))), ()), (r9.2.1, ()))
  else
   if (v2 == (21 : Int)) = false then
   if (v2 == (22 : Int)) then
    let v24 := (((0 : Int)).tmod (11 : Int))
    some (((v2, ((0 : Int), (r4.1.1, (v24, ())))), ()), (r9.2.1, ()))
   else
    some (((v2, ((0 : Int), (r4.1.1, ((0 : Int), ())))), ()), (r9.2.1, ()))
   else
   let v25 := (((0 : Int)).tmod (11 : Int))
   some (((v2, ((0 : Int), (r4.1.1, (v25, ())))), ()), (r9.2.1, ()))
  else
  if (leI v2 (11 : Int)) then
   let v26 := ((r9.1.1).tmod (16 : Int))
   if (v2 == (21 : Int)) = false then
   if (v2 == (22 : Int)) then
    let v27 := ((v26).tmod (11 : Int))
    some (((v2, ((0 : Int), (r4.1.1, (v27, ())))), ()), (r9.2.1, ()))
   else
    some (((v2, ((0 : Int), (r4.1.1, (v26, ())))), ()), (r9.2.1, ()))
   else
   let v28 := ((v26).tmod (11 : Int))
   some (((v2, ((0 : Int), (r4.1.1, (v28, ())))), ()), (r9.2.1, ()))
  else
   if (v2 == (21 : Int)) = false then
   if (v2 == (22 : Int)) then
    let v29 := ((r9.1.1).tmod (11 : Int))
    some (((v2, ((0 : Int), (r4.1.1, (v29, ())))), ()), (r9.2.1, ()))
   else
    some (((v2, ((0 : Int), (r4.1.1, (r9.1.1, ())))), ()), (r9.2.1, ()))
   else
   let v30 := ((r9.1.1).tmod (11 : Int))
   some (((v2, ((0 : Int), (r4.1.1, (v30, ())))), ()), (r9.2.1, ()))
 else
 if r10.1.2.1 then
  if r10.1.2.2.1 then
  if (leI v2 (11 : Int)) then
   let v31 := (((0 : Int)).tmod (16 : Int))
   if (v2 == (21 : Int)) = false then
   if (v2 == (22 : Int)) then
    let v32 := ((v31).tmod (11 : Int))
    some (((v2, (r3.1.1, ((0 : Int), (v32, ())))), ()), (r9.2.1, ()))
   else
    some (((v2, (r3.1.1, ((0 : Int), (v31, ())))), ()), (r9.2.1, ()))
   else
   let v33 := ((v31).tmod (11 : Int))
   some (((v2, (r3.1.1, ((0 : Int), (v33, ())))), ()), (r9.2.1, ()))
  else
   if (v2 == (21 : Int)) = false then
   if (v2 == (22 : Int)) then
    let v34 := (((0 : Int)).tmod (11 : Int))
    some (((v2, (r3.1.1, ((0 : Int), (v34, ())))), ()), (r9.2.1, ()))
   else
    some (((v2, (r3.1.1, ((0 : Int), ((0 : Int), ())))), ()), (r9.2.1, ()))
   else
   let v35 := (((0 : Int)).tmod (11 : Int))
   some (((v2, (r3.1.1, ((0 : Int), (v35, ())))), ()), (r9.2.1, ()))
  else
  if (leI v2 (11 : Int)) then
   let v36 := ((r9.1.1).tmod (16 : Int))
   if (v2 == (21 : Int)) = false then
   if (v2 == (22 : Int)) then
    let v37 := ((v36).tmod (11 : Int))
    some (((v2, (r3.1.1, ((0 : Int), (v37, ())))), ()), (r9.2.1, ()))
   else
    some (((v2, (r3.1.1, ((0 : Int), (v36, ())))), ()), (r9.2.1, ()))
   else
   let v38 := ((v36).tmod (11 : Int))
   some (((v2, (r3.1.1, ((0 : Int), (v38, ())))), ()), (r9.2.1, ()))
  else
   if (v2 == (21 : Int)) = false then
   if (v2 == (22 : Int)) then
    let v39 := ((r9.1.1).tmod (11 : Int))
    some (((v2, (r3.1.1, ((0 : Int), (v39, ())))), ()), (r9.2.1, ()))
   else
    some (((v2, (r3.1.1, ((0 : Int), (r9.1.1, ())))), ()), (r9.2.1, ()))
   else
   let v40 := ((r9.1.1).tmod (11 : Int))
   some (((v2, (r3.1.1, ((0 : Int), (v40, ())))), ()), (r9.2.1, ()))
 else
  if r10.1.2.2.1 then
  if (leI v2 (11 : Int)) then
   let v41 := (((0 : Int)).tmod (16 : Int))
   if (v2 == (21 : Int)) = false then
   if (v2 == (22 : Int)) then
    let v42 := ((v41).tmod (11 : Int))
    some (((v2, (r3.1.1, (r4.1.1, (v42, ())))), ()), (r9.2.1, ()))
   else
    some (((v2, (r3.1.1, (r4.1.1, (v41, ())))), ()), (r9.2.1, ()))
   else
   let v43 := ((v41).tmod (11 : Int))
   some (((v2, (r3.1.1, (r4.1.1, (v43, ())))), ()), (r9.2.1, ()))
  else
   if (v2 == (21 : Int)) = false then
   if (v2 == (22 : Int)) then
    let v44 := (((0 : Int)).tmod (11 : Int))
    some (((v2, (r3.1.1, (r4.1.1, (v44, ())))), ()), (r9.2.1, ()))
   else
    some (((v2, (r3.1.1, (r4.1.1, ((0 : Int), ())))), ()), (r9.2.1, ()))
   else
   let v45 := (((0 : Int)).tmod (11 : Int))
   some (((v2, (r3.1.1, (r4.1.1, (v45, ())))), ()), (r9.2.1, ()))
  else
  if (leI v2 (11 : Int)) then
   let v46 := ((r9.1.1).tmod (16 : Int))
   if (v2 == (21 : Int)) = false then
   if (v2 == (22 : Int)) then
    let v47 := ((v46).tmod (11 : Int))
    some (((v2, (r3.1.1, (r4.1.1, (v47, ())))), ()), (r9.2.1, ()))
   else
    some (((v2, (r3.1.1, (r4.1.1, (v46, ())))), ()), (r9.2.1, ()))
   else
   let v48 := ((v46).tmod (11 : Int))
   some (((v2, (r3.1.1, (r4.1.1, (v48, ())))), ()), (r9.2.1, ()))
  else
   if (v2 == (21 : Int)) = false then
   if (v2 == (22 : Int)) then
    let v49 := ((r9.1.1).tmod (11 : Int))
    some (((v2, (r3.1.1, (r4.1.1, (v49, ())))), ()), (r9.2.1, ()))
   else
    some (((v2, (r3.1.1, (r4.1.1, (r9.1.1, ())))), ()), (r9.2.1, ()))
   else
   let v50 := ((r9.1.1).tmod (11 : Int))
   some (((v2, (r3.1.1, (r4.1.1, (v50, ())))), ()), (r9.2.1, ()))
abbrev C_t : Con := ⟨P_t, R_t, F_t, false⟩
abbrev G_t : Env := [(53, C_i), (54, C_c), (270, C_s)]
theorem g_t : EnvOk Tryz.prog G_t := (env_cons s_i (env_cons s_c (env_cons s_s env_nil)))
theorem r_t (x) : runFn T G_t [] Tryz.f260 P_t R_t x = F_t x := by kernel_rfl
theorem s_t : CallsOk Tryz.prog 260 C_t :=
 fn_calls (L := []) hT g_t Tryz.f260 (by kernel_rfl) (by kernel_rfl) (by kernel_rfl) (plain_ok (by kernel_rfl)) r_t
/-! spec.l7Ins -/
abbrev P_u : List PK := [.box [.dat Y22, .dat YI] [.dat Y22, .dat YI]]
abbrev R_u : List VK := [.s (.dat Y42)]
def F_u (x : denP P_u) : Option (denV R_u × denQ P_u) :=
 (F_c (x.1, (3 : Int), ())).bind fun r1 =>
 let v2 := (IntKind.i64.wrap ((1 : Int) + r1.1.1))
 (F_c (r1.2.1, (14 : Int), ())).bind fun r3 =>
 if (r3.1.1 == (0 : Int)) then
 (F_c (r3.2.1, (4 : Int), ())).bind fun r4 =>
 (F_c (r4.2.1, (9 : Int), ())).bind fun r5 =>
 (F_c (r5.2.1, (8 : Int), ())).bind fun r6 =>
 let v7 := (IntKind.i64.wrap ((56 : Int) + r6.1.1))
 (F_c (r6.2.1, (16 : Int), ())).bind fun r8 =>
 let v9 := (IntKind.i64.wrap ((40 : Int) + r8.1.1))
 (F_i (r8.2.1, [r5.1.1, v7, v9, (65535 : Int)], ())).bind fun r10 =>
 some ((((12 : Int), (v2, (r4.1.1, (r10.1.1, ())))), ()), (r10.2.1, ()))
 else
 if (r3.1.1 == (1 : Int)) then
  (F_c (r3.2.1, (4 : Int), ())).bind fun r11 =>
  (F_c (r11.2.1, (9 : Int), ())).bind fun r12 =>
  (F_c (r12.2.1, (8 : Int), ())).bind fun r13 =>
  let v14 := (IntKind.i64.wrap ((56 : Int) + r13.1.1))
  (F_c (r13.2.1, (16 : Int), ())).bind fun r15 =>
  let v16 := (IntKind.i64.wrap ((40 : Int) + r15.1.1))
  (F_i (r15.2.1, [r12.1.1, v14, v16, (65535 : Int)], ())).bind fun r17 =>
  some ((((12 : Int), (v2, (r11.1.1, (r17.1.1, ())))), ()), (r17.2.1, ()))
 else
  if (r3.1.1 == (2 : Int)) then
  (F_c (r3.2.1, (4 : Int), ())).bind fun r18 =>
  (F_c (r18.2.1, (9 : Int), ())).bind fun r19 =>
  (F_c (r19.2.1, (8 : Int), ())).bind fun r20 =>
  let v21 := (IntKind.i64.wrap ((56 : Int) + r20.1.1))
  (F_c (r20.2.1, (16 : Int), ())).bind fun r22 =>
  let v23 := (IntKind.i64.wrap ((40 : Int) + r22.1.1))
  (F_i (r22.2.1, [r19.1.1, v21, v23, (65535 : Int)], ())).bind fun r24 =>
  some ((((12 : Int), (v2, (r18.1.1, (r24.1.1, ())))), ()), (r24.2.1, ()))
  else
  if (r3.1.1 == (3 : Int)) then
   (F_c (r3.2.1, (11 : Int), ())).bind fun r25 =>
   let v26 := (IntKind.i64.wrap ((1 : Int) + r25.1.1))
   (F_c (r25.2.1, (4 : Int), ())).bind fun r27 =>
   (F_c (r27.2.1, (4 : Int), ())).bind fun r28 =>
   some (((v26, (v2, (r27.1.1, (r28.1.1, ())))), ()), (r28.2.1, ()))
  else
   if (r3.1.1 == (4 : Int)) then
   (F_c (r3.2.1, (4 : Int), ())).bind fun r29 =>
   (F_c (r29.2.1, (24 : Int), ())).bind fun r30 =>
   (F_c (r30.2.1, (16 : Int), ())).bind fun r31 =>
   let v32 := (IntKind.i64.wrap ((40 : Int) + r31.1.1))
   (F_c (r31.2.1, (6 : Int), ())).bind fun r33 =>
   let v34 := (IntKind.i64.wrap ((56 : Int) + r33.1.1))
   (F_i (r33.2.1, [r30.1.1, v32, v34], ())).bind fun r35 =>
   some ((((15 : Int), (v2, (r29.1.1, (r35.1.1, ())))), ()), (r35.2.1, ()))
   else
   if (r3.1.1 == (5 : Int)) then
    (F_c (r3.2.1, (4 : Int), ())).bind fun r36 =>
    (F_c (r36.2.1, (24 : Int), ())).bind fun r37 =>
    (F_c (r37.2.1, (16 : Int), ())).bind fun r38 =>
    let v39 := (IntKind.i64.wrap ((40 : Int) + r38.1.1))
    (F_c (r38.2.1, (6 : Int), ())).bind fun r40 =>
    let v41 := (IntKind.i64.wrap ((56 : Int) + r40.1.1))
    (F_i (r40.2.1, [r37.1.1, v39, v41], ())).bind fun r42 =>
    some ((((15 : Int), (v2, (r36.1.1, (r42.1.1, ())))), ()), (r42.2.1, ()))
   else
    if (r3.1.1 == (6 : Int)) then
    (F_c (r3.2.1, (4 : Int), ())).bind fun r43 =>
    (F_c (r43.2.1, (24 : Int), ())).bind fun r44 =>
    (F_c (r44.2.1, (16 : Int), ())).bind fun r45 =>
    let v46 := (IntKind.i64.wrap ((40 : Int) + r45.1.1))
    (F_c (r45.2.1, (6 : Int), ())).bind fun r47 =>
    let v48 := (IntKind.i64.wrap ((56 : Int) + r47.1.1))
    (F_i (r47.2.1, [r44.1.1, v46, v48], ())).bind fun r49 =>
    some ((((14 : Int), (v2, (r43.1.1, (r49.1.1, ())))), ()), (r49.2.1, ()))
    else
    if (r3.1.1 == (7 : Int)) then
     (F_c (r3.2.1, (4 : Int), ())).bind fun r50 =>
     (F_c (r50.2.1, (24 : Int), ())).bind fun r51 =>
     (F_c (r51.2.1, (16 : Int), ())).bind fun r52 =>
     let v53 := (IntKind.i64.wrap ((40 : Int) + r52.1.1))
     (F_c (r52.2.1, (6 : Int), ())).bind fun r54 =>
     let v55 := (IntKind.i64.wrap ((56 : Int) + r54.1.1))
     (F_i (r54.2.1, [r51.1.1, v53, v55], ())).bind fun r56 =>
     some ((((14 : Int), (v2, (r50.1.1, (r56.1.1, ())))), ()), (r56.2.1, ()))
    else
     if (r3.1.1 == (8 : Int)) then
     (F_i (r3.2.1, [(16 : Int), (17 : Int), (18 : Int)], ())).bind fun r57 =>
     (F_c (r57.2.1, (4 : Int), ())).bind fun r58 =>
     (F_i (r58.2.1, [(1 : Int), (2 : Int), (65535 : Int), (65533 : Int)], ())).bind fun r59 =>
     some (((r57.1.1, (v2, (r58.1.1, (r59.1.1, ())))), ()), (r59.2.1, ()))
     else
     if (r3.1.1 == (9 : Int)) then
      (F_i (r3.2.1, [(0 : Int), (1 : Int), (7 : Int), (9 : Int), (10 : Int), (5 : Int), (6 : Int)], ())).bind fun r60 =>
      some ((((22 : Int), ((0 : Int), (v2, (r60.1.1, ())))), ()), (r60.2.1, ()))
     else
      if (r3.1.1 == (10 : Int)) then
      (F_c (r3.2.1, (11 : Int), ())).bind fun r61 =>
      some ((((21 : Int), (v2, ((0 : Int), (r61.1.1, ())))), ()), (r61.2.1, ()))
      else
      if (r3.1.1 == (11 : Int)) then
       (F_i (r3.2.1, [(0 : Int), (5 : Int)], ())).bind fun r62 =>
       (F_i (r62.2.1, [(65534 : Int), (65530 : Int), (2 : Int)], ())).bind fun r63 =>
       some ((((19 : Int), (r62.1.1, ((0 : Int), (r63.1.1, ())))), ()), (r63.2.1, ()))
      else
       (F_t (r3.2.1, ())).bind fun r64 =>
       some ((r64.1.1, ()), (r64.2.1, ()))
abbrev C_u : Con := ⟨P_u, R_u, F_u, false⟩
abbrev G_u : Env := [(53, C_i), (54, C_c), (260, C_t)]
theorem g_u : EnvOk Tryz.prog G_u := (env_cons s_i (env_cons s_c (env_cons s_t env_nil)))
theorem r_u (x) : runFn T G_u [] Tryz.f212 P_u R_u x = F_u x := by kernel_rfl
theorem s_u : CallsOk Tryz.prog 212 C_u :=
 fn_calls (L := []) hT g_u Tryz.f212 (by kernel_rfl) (by kernel_rfl) (by kernel_rfl) (plain_ok (by kernel_rfl)) r_u
/-! spec.InsFault -/
abbrev P_v : List PK := [.val Y42]
abbrev R_v : List VK := [.s (.dat YI)]
def F_v (x : denP P_v) : Option (denV R_v × denQ P_v) :=
 (F_d (x.1.1, (1 : Int), (26 : Int), ())).bind fun r1 =>
 if (!r1.1.1) = false then
 (F_d (x.1.2.1, (0 : Int), (15 : Int), ())).bind fun r2 =>
 if (!r2.1.1) = false then
  (F_d (x.1.2.2.1, (0 : Int), (15 : Int), ())).bind fun r3 =>
  if (!r3.1.1) = false then
  (F_d (x.1.2.2.2.1, (0 : Int), (65535 : Int), ())).bind fun r4 =>
  if (!r4.1.1) then
   some (((3 : Int), ()), ())
  else
   (F_s (x.1.1, ())).bind fun r5 =>
   if r5.1.1 = true then
   if (x.1.2.1 != (0 : Int)) = false then
    if r5.1.2.1 = true then
    if (x.1.2.2.1 != (0 : Int)) = false then
     if r5.1.2.2.1 = true then
     if (x.1.2.2.2.1 != (0 : Int)) = false then
      if (leI x.1.1 (11 : Int)) = true then
      if (ltI (15 : Int) x.1.2.2.2.1) = false then
       if (x.1.1 == (21 : Int)) = false then
       if (x.1.1 == (22 : Int)) = true then
        if (ltI (10 : Int) x.1.2.2.2.1) then
        some (((1 : Int), ()), ())
        else
        some (((0 : Int), ()), ())
       else
        some (((0 : Int), ()), ())
       else
       if (ltI (10 : Int) x.1.2.2.2.1) then
        some (((1 : Int), ()), ())
       else
        some (((0 : Int), ()), ())
      else
       some (((1 : Int), ()), ())
      else
      if (x.1.1 == (21 : Int)) = false then
       if (x.1.1 == (22 : Int)) = true then
       if (ltI (10 : Int) x.1.2.2.2.1) then
        some (((1 : Int), ()), ())
       else
        some (((0 : Int), ()), ())
       else
       some (((0 : Int), ()), ())
      else
       if (ltI (10 : Int) x.1.2.2.2.1) then
       some (((1 : Int), ()), ())
       else
       some (((0 : Int), ()), ())
     else
      some (((1 : Int), ()), ())
     else
     if (leI x.1.1 (11 : Int)) = true then
      if (ltI (15 : Int) x.1.2.2.2.1) = false then
      if (x.1.1 == (21 : Int)) = false then
       if (x.1.1 == (22 : Int)) = true then
       if (ltI (10 : Int) x.1.2.2.2.1) then
        some (((1 : Int), ()), ())
       else
        some (((0 : Int), ()), ())
       else
       some (((0 : Int), ()), ())
      else
       if (ltI (10 : Int) x.1.2.2.2.1) then
       some (((1 : Int), ()), ())
       else
       some (((0 : Int), ()), ())
      else
      some (((1 : Int), ()), ())
     else
      if (x.1.1 == (21 : Int)) = false then
      if (x.1.1 == (22 : Int)) = true then
       if (ltI (10 : Int) x.1.2.2.2.1) then
       some (((1 : Int), ()), ())
       else
       some (((0 : Int), ()), ())
      else
       some (((0 : Int), ()), ())
      else
      if (ltI (10 : Int) x.1.2.2.2.1) then
       some (((1 : Int), ()), ())
      else
       some (((0 : Int), ()), ())
    else
     some (((1 : Int), ()), ())
    else
    if r5.1.2.2.1 = true then
     if (x.1.2.2.2.1 != (0 : Int)) = false then
     if (leI x.1.1 (11 : Int)) = true then
      if (ltI (15 : Int) x.1.2.2.2.1) = false then
      if (x.1.1 == (21 : Int)) = false then
       if (x.1.1 == (22 : Int)) = true then
       if (ltI (10 : Int) x.1.2.2.2.1) then
        some (((1 : Int), ()), ())
       else
        some (((0 : Int), ()), ())
       else
       some (((0 : Int), ()), ())
      else
       if (ltI (10 : Int) x.1.2.2.2.1) then
       some (((1 : Int), ()), ())
       else
       some (((0 : Int), ()), ())
      else
      some (((1 : Int), ()), ())
     else
      if (x.1.1 == (21 : Int)) = false then
      if (x.1.1 == (22 : Int)) = true then
       if (ltI (10 : Int) x.1.2.2.2.1) then
       some (((1 : Int), ()), ())
       else
       some (((0 : Int), ()), ())
      else
       some (((0 : Int), ()), ())
      else
      if (ltI (10 : Int) x.1.2.2.2.1) then
       some (((1 : Int), ()), ())
      else
       some (((0 : Int), ()), ())
     else
     some (((1 : Int), ()), ())
    else
     if (leI x.1.1 (11 : Int)) = true then
     if (ltI (15 : Int) x.1.2.2.2.1) = false then
      if (x.1.1 == (21 : Int)) = false then
      if (x.1.1 == (22 : Int)) = true then
       if (ltI (10 : Int) x.1.2.2.2.1) then
       some (((1 : Int), ()), ())
       else
       some (((0 : Int), ()), ())
      else
       some (((0 : Int), ()), ())
      else
      if (ltI (10 : Int) x.1.2.2.2.1) then
       some (((1 : Int), ()), ())
      else
       some (((0 : Int), ()), ())
     else
      some (((1 : Int), ()), ())
     else
     if (x.1.1 == (21 : Int)) = false then
      if (x.1.1 == (22 : Int)) = true then
      if (ltI (10 : Int) x.1.2.2.2.1) then
       some (((1 : Int), ()), ())
      else
       some (((0 : Int), ()), ())
      else
      some (((0 : Int), ()), ())
     else
      if (ltI (10 : Int) x.1.2.2.2.1) then
      some (((1 : Int), ()), ())
      else
      some (((0 : Int), ()), ())
   else
    some (((1 : Int), ()), ())
   else
   if r5.1.2.1 = true then
    if (x.1.2.2.1 != (0 : Int)) = false then
    if r5.1.2.2.1 = true then
     if (x.1.2.2.2.1 != (0 : Int)) = false then
     if (leI x.1.1 (11 : Int)) = true then
      if (ltI (15 : Int) x.1.2.2.2.1) = false then
      if (x.1.1 == (21 : Int)) = false then
       if (x.1.1 == (22 : Int)) = true then
       if (ltI (10 : Int) x.1.2.2.2.1) then
        some (((1 : Int), ()), ())
       else
        some (((0 : Int), ()), ())
       else
       some (((0 : Int), ()), ())
      else
       if (ltI (10 : Int) x.1.2.2.2.1) then
       some (((1 : Int), ()), ())
       else
       some (((0 : Int), ()), ())
      else
      some (((1 : Int), ()), ())
     else
      if (x.1.1 == (21 : Int)) = false then
      if (x.1.1 == (22 : Int)) = true then
       if (ltI (10 : Int) x.1.2.2.2.1) then
       some (((1 : Int), ()), ())
       else
       some (((0 : Int), ()), ())
      else
       some (((0 : Int), ()), ())
      else
      if (ltI (10 : Int) x.1.2.2.2.1) then
       some (((1 : Int), ()), ())
      else
       some (((0 : Int), ()), ())
     else
     some (((1 : Int), ()), ())
    else
     if (leI x.1.1 (11 : Int)) = true then
     if (ltI (15 : Int) x.1.2.2.2.1) = false then
      if (x.1.1 == (21 : Int)) = false then
      if (x.1.1 == (22 : Int)) = true then
       if (ltI (10 : Int) x.1.2.2.2.1) then
       some (((1 : Int), ()), ())
       else
       some (((0 : Int), ()), ())
      else
       some (((0 : Int), ()), ())
      else
      if (ltI (10 : Int) x.1.2.2.2.1) then
       some (((1 : Int), ()), ())
      else
       some (((0 : Int), ()), ())
     else
      some (((1 : Int), ()), ())
     else
     if (x.1.1 == (21 : Int)) = false then
      if (x.1.1 == (22 : Int)) = true then
      if (ltI (10 : Int) x.1.2.2.2.1) then
       some (((1 : Int), ()), ())
      else
       some (((0 : Int), ()), ())
      else
      some (((0 : Int), ()), ())
     else
      if (ltI (10 : Int) x.1.2.2.2.1) then
      some (((1 : Int), ()), ())
      else
      some (((0 : Int), ()), ())
    else
    some (((1 : Int), ()), ())
   else
    if r5.1.2.2.1 = true then
    if (x.1.2.2.2.1 != (0 : Int)) = false then
     if (leI x.1.1 (11 : Int)) = true then
     if (ltI (15 : Int) x.1.2.2.2.1) = false then
      if (x.1.1 == (21 : Int)) = false then
      if (x.1.1 == (22 : Int)) = true then
       if (ltI (10 : Int) x.1.2.2.2.1) then
       some (((1 : Int), ()), ())
       else
       some (((0 : Int), ()), ())
      else
       some (((0 : Int), ()), ())
      else
      if (ltI (10 : Int) x.1.2.2.2.1) then
       some (((1 : Int), ()), ())
      else
       some (((0 : Int), ()), ())
     else
      some (((1 : Int), ()), ())
     else
     if (x.1.1 == (21 : Int)) = false then
      if (x.1.1 == (22 : Int)) = true then
      if (ltI (10 : Int) x.1.2.2.2.1) then
       some (((1 : Int), ()), ())
      else
       some (((0 : Int), ()), ())
      else
      some (((0 : Int), ()), ())
     else
      if (ltI (10 : Int) x.1.2.2.2.1) then
      some (((1 : Int), ()), ())
      else
      some (((0 : Int), ()), ())
    else
     some (((1 : Int), ()), ())
    else
    if (leI x.1.1 (11 : Int)) = true then
     if (ltI (15 : Int) x.1.2.2.2.1) = false then
     if (x.1.1 == (21 : Int)) = false then
      if (x.1.1 == (22 : Int)) = true then
      if (ltI (10 : Int) x.1.2.2.2.1) then
       some (((1 : Int), ()), ())
      else
       some (((0 : Int), ()), ())
      else
      some (((0 : Int), ()), ())
     else
      if (ltI (10 : Int) x.1.2.2.2.1) then
      some (((1 : Int), ()), ())
      else
      some (((0 : Int), ()), ())
     else
     some (((1 : Int), ()), ())
    else
     if (x.1.1 == (21 : Int)) = false then
     if (x.1.1 == (22 : Int)) = true then
      if (ltI (10 : Int) x.1.2.2.2.1) then
      some (((1 : Int), ()), ())
      else
      some (((0 : Int), ()), ())
     else
      some (((0 : Int), ()), ())
     else
     if (ltI (10 : Int) x.1.2.2.2.1) then
      some (((1 : Int), ()), ())
     else
      some (((0 : Int), ()), ())
  else
  some (((3 : Int), ()), ())
 else
  some (((3 : Int), ()), ())
 else
 some (((3 : Int), ()), ())
abbrev C_v : Con := ⟨P_v, R_v, F_v, false⟩
abbrev G_v : Env := [(59, C_d), (270, C_s)]
theorem g_v : EnvOk Tryz.prog G_v := (env_cons s_d (env_cons s_s env_nil))
theorem r_v (x) : runFn T G_v [] Tryz.f220 P_v R_v x = F_v x := by kernel_rfl
theorem s_v : CallsOk Tryz.prog 220 C_v :=
 fn_calls (L := []) hT g_v Tryz.f220 (by kernel_rfl) (by kernel_rfl) (by kernel_rfl) (plain_ok (by kernel_rfl)) r_v
/-! spec.EncodeIns -/
abbrev P_w : List PK := [.val Y42]
abbrev R_w : List VK := [.s (.dat Y40)]
def F_w (x : denP P_w) : Option (denV R_w × denQ P_w) :=
 (F_v (x.1, ())).bind fun r1 =>
 if (r1.1.1 != (0 : Int)) then
 some (((r1.1.1, ((0 : Int), ())), ()), ())
 else
 let v2 := (IntKind.i64.wrap (x.1.1 * 2 ^ 24))
 let v3 := (IntKind.i64.wrap (x.1.2.1 * 2 ^ 20))
 let v4 := (IntKind.i64.wrap (v2 + v3))
 let v5 := (IntKind.i64.wrap (x.1.2.2.1 * 2 ^ 16))
 let v6 := (IntKind.i64.wrap (v4 + v5))
 let v7 := (IntKind.i64.wrap (v6 + x.1.2.2.2.1))
 some ((((0 : Int), (v7, ())), ()), ())
abbrev C_w : Con := ⟨P_w, R_w, F_w, false⟩
abbrev G_w : Env := [(220, C_v)]
theorem g_w : EnvOk Tryz.prog G_w := (env_cons s_v env_nil)
theorem r_w (x) : runFn T G_w [] Tryz.f211 P_w R_w x = F_w x := by kernel_rfl
theorem s_w : CallsOk Tryz.prog 211 C_w :=
 fn_calls (L := []) hT g_w Tryz.f211 (by kernel_rfl) (by kernel_rfl) (by kernel_rfl) (plain_ok (by kernel_rfl)) r_w
/-! spec.l7Image -/
abbrev P_x : List PK := [.box [.dat Y22, .dat YI] [.dat Y22, .dat YI], .val YI]
abbrev R_x : List VK := [.s (.own 2 YI)]
abbrev i_x_2 : Shp := { slots := [(0, .s (.ptr 9000000 0)), (1, .s (.dat YI)), (5, .s (.own 2 YI))], boxes := [(9000000, [.dat Y22, .dat YI])], rows := [] }
abbrev o_x_2 : List (Ex × Shp) := [(.exit 0, { slots := [(5, .s (.own 2 YI))], boxes := [(9000000, [.dat Y22, .dat YI])], rows := [] })]
def l_x_2 (rec : i_x_2.den → Option (denO o_x_2)) (u2 : i_x_2.den) : Option (denO o_x_2) :=
 if (ltI (0 : Int) u2.1.2.1) then
 (F_u (u2.2.1.1, ())).bind fun r5 =>
 (F_w (r5.1.1, ())).bind fun r6 =>
 (F_h (r5.2.1, (20 : Int), ())).bind fun r7 =>
 if r7.1.1 then
  (F_j (r7.2.1, ())).bind fun r8 =>
  if (u2.1.2.2.1.length + [r8.1.1].length) * 8 ≤ 140737488355328 then
  let v9 := (u2.1.2.2.1 ++ [r8.1.1])
  let v10 := (IntKind.i64.wrap (u2.1.2.1 - (1 : Int)))
  rec (((), (v10, (v9, ()))), ((r8.2.1, ()), ()))
  else none
 else
  if (u2.1.2.2.1.length + [r6.1.1.2.1].length) * 8 ≤ 140737488355328 then
  let v11 := (u2.1.2.2.1 ++ [r6.1.1.2.1])
  let v12 := (IntKind.i64.wrap (u2.1.2.1 - (1 : Int)))
  rec (((), (v12, (v11, ()))), ((r7.2.1, ()), ()))
  else none
 else
 some (.inl ((u2.1.2.2.1, ()), ((u2.2.1.1, ()), ())))
def L_x_2 (x : i_x_2.den) : Option (denO o_x_2) := iterF l_x_2 lots x
def F_x (x : denP P_x) : Option (denV R_x × denQ P_x) :=
 (L_x_2 (((), (x.2.1, (([] : List (den YI)), ()))), ((x.1, ()), ()))).bind fun z13 =>
 match z13 with
 | .inl x14 =>
 some ((x14.1.1, ()), (x14.2.1.1, ()))
 | .inr z13_ =>
 none
abbrev C_x : Con := ⟨P_x, R_x, F_x, false⟩
abbrev G_x : Env := [(132, C_h), (211, C_w), (212, C_u), (213, C_j)]
theorem g_x : EnvOk Tryz.prog G_x := (env_cons s_h (env_cons s_w (env_cons s_u (env_cons s_j env_nil))))
abbrev c_x_2 : Cut := ⟨i_x_2, o_x_2, fun x => iterF l_x_2 lots x⟩
theorem t_x_2 (rec x) : run T G_x [] (nav Tryz.f134 [1, 1, 0, 0, 0]) (mk 25 i_x_2 x) (loopK i_x_2 o_x_2 rec) = l_x_2 rec x := by kernel_rfl
theorem k_x_2 : CutOk Tryz.prog 25 (.loop (nav Tryz.f134 [1, 1, 0, 0, 0])) c_x_2 :=
 loop_cut (L := []) hT g_x t_x_2 (plain_ok (by kernel_rfl)) _
theorem r_x (x) : runFn T G_x [(2, c_x_2)] Tryz.f134 P_x R_x x = F_x x := by kernel_rfl
theorem s_x : CallsOk Tryz.prog 134 C_x :=
 fn_calls (L := [(2, c_x_2)]) hT g_x Tryz.f134 (by kernel_rfl) (by kernel_rfl) (by kernel_rfl) (seq_ok (plain_ok (by kernel_rfl)) (seq_ok (plain_ok (by kernel_rfl)) (seq_ok (block_ok (by kernel_rfl) (loop_ok (by kernel_rfl) k_x_2)) (plain_ok (by kernel_rfl))))) r_x
/-! spec.l3Memory -/
abbrev P_y : List PK := [.box [.dat Y22, .dat YI] [.dat Y22, .dat YI]]
abbrev R_y : List VK := [.s (.dat Y24)]
abbrev i_y_3 : Shp := { slots := [(0, .s (.ptr 9000000 0)), (3, .s (.own 2 YI)), (4, .s (.dat YI))], boxes := [(9000000, [.dat Y22, .dat YI])], rows := [] }
abbrev o_y_3 : List (Ex × Shp) := [(.exit 0, { slots := [(0, .s (.ptr 9000000 0)), (3, .s (.own 2 YI))], boxes := [(9000000, [.dat Y22, .dat YI])], rows := [] })]
def l_y_3 (rec : i_y_3.den → Option (denO o_y_3)) (u3 : i_y_3.den) : Option (denO o_y_3) :=
 let v7 := ((u3.1.2.1.length : Nat) : Int)
 if (ltI u3.1.2.2.1 v7) then
 (F_h (u3.2.1.1, (3 : Int), ())).bind fun r8 =>
 if r8.1.1 then
  (F_j (r8.2.1, ())).bind fun r9 =>
  if 0 ≤ u3.1.2.2.1 ∧ u3.1.2.2.1 < ((u3.1.2.1.length : Nat) : Int) then
  ((u3.1.2.1)[(u3.1.2.2.1).toNat]?).bind fun y10 =>
  let v11 := (u3.1.2.1.set (u3.1.2.2.1).toNat r9.1.1)
  let v12 := (IntKind.i64.wrap (u3.1.2.2.1 + (1 : Int)))
  rec (((), (v11, (v12, ()))), ((r9.2.1, ()), ()))
  else none
 else
  let v13 := (IntKind.i64.wrap (u3.1.2.2.1 + (1 : Int)))
  rec (((), (u3.1.2.1, (v13, ()))), ((r8.2.1, ()), ()))
 else
 some (.inl (((), (u3.1.2.1, ())), ((u3.2.1.1, ()), ())))
def L_y_3 (x : i_y_3.den) : Option (denO o_y_3) := iterF l_y_3 lots x
def F_y (x : denP P_y) : Option (denV R_y × denQ P_y) :=
 (F_c (x.1, (5 : Int), ())).bind fun r1 =>
 let v2 := (IntKind.i64.wrap ((1 : Int) + r1.1.1))
 (F_r (v2, ())).bind fun r3 =>
 (L_y_3 (((), (r3.1.1.2.1, ((0 : Int), ()))), ((r1.2.1, ()), ()))).bind fun z14 =>
 match z14 with
 | .inl x15 =>
 (F_c (x15.2.1.1, (16 : Int), ())).bind fun r16 =>
 if (r16.1.1 == (0 : Int)) then
  if 0 ≤ (1 : Int) ∧ (1 : Int) ≤ ((x15.1.2.1.length : Nat) : Int) ∧ ((x15.1.2.1.length : Nat) : Int) ≤ ((x15.1.2.1.length : Nat) : Int) then
  some ((((x15.1.2.1.drop (0 + ((1 : Int)).toNat)).take ((((x15.1.2.1.length : Nat) : Int)).toNat - ((1 : Int)).toNat)), ()), (r16.2.1, ()))
  else none
 else
  if (r16.1.1 == (1 : Int)) then
  let v17 := ((x15.1.2.1.length : Nat) : Int)
  (F_c (r16.2.1, v17, ())).bind fun r18 =>
  (F_i (r18.2.1, [(-1 : Int), (4294967296 : Int)], ())).bind fun r19 =>
  if 0 ≤ r18.1.1 ∧ r18.1.1 < ((x15.1.2.1.length : Nat) : Int) then
   ((x15.1.2.1)[(r18.1.1).toNat]?).bind fun y20 =>
   let v21 := (x15.1.2.1.set (r18.1.1).toNat r19.1.1)
   some ((v21, ()), (r19.2.1, ()))
  else none
  else
  if (r16.1.1 == (2 : Int)) then
   some (((List.replicate ((200 : Int)).toNat (zeroD YI)), ()), (r16.2.1, ()))
  else
   some ((x15.1.2.1, ()), (r16.2.1, ()))
 | .inr z14_ =>
 none
abbrev C_y : Con := ⟨P_y, R_y, F_y, false⟩
abbrev G_y : Env := [(53, C_i), (54, C_c), (132, C_h), (133, C_r), (213, C_j)]
theorem g_y : EnvOk Tryz.prog G_y := (env_cons s_i (env_cons s_c (env_cons s_h (env_cons s_r (env_cons s_j env_nil)))))
abbrev c_y_3 : Cut := ⟨i_y_3, o_y_3, fun x => iterF l_y_3 lots x⟩
theorem t_y_3 (rec x) : run T G_y [] (nav Tryz.f135 [1, 1, 0, 1, 0, 0]) (mk 44 i_y_3 x) (loopK i_y_3 o_y_3 rec) = l_y_3 rec x := by kernel_rfl
theorem k_y_3 : CutOk Tryz.prog 44 (.loop (nav Tryz.f135 [1, 1, 0, 1, 0, 0])) c_y_3 :=
 loop_cut (L := []) hT g_y t_y_3 (plain_ok (by kernel_rfl)) _
theorem r_y (x) : runFn T G_y [(3, c_y_3)] Tryz.f135 P_y R_y x = F_y x := by kernel_rfl
theorem s_y : CallsOk Tryz.prog 135 C_y :=
 fn_calls (L := [(3, c_y_3)]) hT g_y Tryz.f135 (by kernel_rfl) (by kernel_rfl) (by kernel_rfl) (seq_ok (plain_ok (by kernel_rfl)) (seq_ok (plain_ok (by kernel_rfl)) (seq_ok (seq_ok (plain_ok (by kernel_rfl)) (block_ok (by kernel_rfl) (loop_ok (by kernel_rfl) k_y_3))) (plain_ok (by kernel_rfl))))) r_y
/-! spec.l10World -/
abbrev P_z : List PK := [.box [.dat Y22, .dat YI] [.dat Y22, .dat YI]]
abbrev R_z : List VK := [.g [.dat Y24, .dat YI, .own 2 YI, .dat .bool, .dat .bool, .dat .bool, .dat YI, .dat Y24, .own 2 YI], .s (.dat Y27), .s (.dat Y24)]
abbrev i_z_16 : Shp := { slots := [(0, .s (.ptr 9000000 0)), (2, .s (.ptr 2 0)), (5, .s (.ptr 5 0)), (6, .s (.vw 41 Y40)), (8, .s (.own 2 YI)), (11, .s (.dat YI))], boxes := [(2, [.own 2 YI, .dat YI, .own 2 YI, .dat .bool, .dat .bool, .dat .bool, .dat YI, .own 2 YI, .own 2 YI]), (5, [.dat Y24, .dat YI, .own 2 YI, .dat .bool, .dat .bool, .dat .bool, .dat YI, .dat Y24, .own 2 YI]), (9000000, [.dat Y22, .dat YI])], rows := [] }
abbrev o_z_16 : List (Ex × Shp) := [(.exit 4, { slots := [(0, .s (.ptr 9000000 0)), (2, .s (.ptr 2 0)), (5, .s (.ptr 5 0)), (6, .s (.vw 41 Y40)), (8, .s (.own 2 YI))], boxes := [(2, [.own 2 YI, .dat YI, .own 2 YI, .dat .bool, .dat .bool, .dat .bool, .dat YI, .own 2 YI, .own 2 YI]), (5, [.dat Y24, .dat YI, .own 2 YI, .dat .bool, .dat .bool, .dat .bool, .dat YI, .dat Y24, .own 2 YI]), (9000000, [.dat Y22, .dat YI])], rows := [] })]
def l_z_16 (rec : i_z_16.den → Option (denO o_z_16)) (u16 : i_z_16.den) : Option (denO o_z_16) :=
 if (ltI u16.1.2.2.2.2.2.1 (8 : Int)) then
 let v27 := (IntKind.i64.wrap ((8 : Int) + u16.1.2.2.2.2.2.1))
 (F_c (u16.2.1.2.2.1, (9 : Int), ())).bind fun r28 =>
 let v29 := (IntKind.i64.wrap ((8 : Int) * r28.1.1))
 (F_c (r28.2.1, (8 : Int), ())).bind fun r30 =>
 let v31 := (IntKind.i64.wrap (v29 + r30.1.1))
 if 0 ≤ v27 ∧ v27 < ((u16.1.2.2.2.2.1.length : Nat) : Int) then
  ((u16.1.2.2.2.2.1)[(v27).toNat]?).bind fun y32 =>
  let v33 := (u16.1.2.2.2.2.1.set (v27).toNat v31)
  let v34 := (IntKind.i64.wrap (u16.1.2.2.2.2.2.1 + (1 : Int)))
  rec (((), ((), ((), ((u16.1.2.2.2.1.1, (u16.1.2.2.2.1.2.1, u16.1.2.2.2.1.2.2)), (v33, (v34, ())))))), ((u16.2.1.1, (u16.2.1.2.1, (r30.2.1, ()))), ()))
 else none
 else
 some (.inl (((), ((), ((), ((u16.1.2.2.2.1.1, (u16.1.2.2.2.1.2.1, u16.1.2.2.2.1.2.2)), (u16.1.2.2.2.2.1, ()))))), ((u16.2.1.1, (u16.2.1.2.1, (u16.2.1.2.2.1, ()))), ())))
def L_z_16 (x : i_z_16.den) : Option (denO o_z_16) := iterF l_z_16 lots x
abbrev i_z_11 : Shp := { slots := [(0, .s (.ptr 9000000 0)), (2, .s (.ptr 2 0)), (5, .s (.ptr 5 0)), (6, .s (.vw 41 Y40)), (8, .s (.own 2 YI)), (9, .s (.own 2 YI)), (10, .s (.dat YI))], boxes := [(2, [.own 2 YI, .dat YI, .own 2 YI, .dat .bool, .dat .bool, .dat .bool, .dat YI, .own 2 YI, .own 2 YI]), (5, [.dat Y24, .dat YI, .own 2 YI, .dat .bool, .dat .bool, .dat .bool, .dat YI, .dat Y24, .own 2 YI]), (9000000, [.dat Y22, .dat YI])], rows := [] }
abbrev o_z_11 : List (Ex × Shp) := [(.exit 2, { slots := [(0, .s (.ptr 9000000 0)), (2, .s (.ptr 2 0)), (5, .s (.ptr 5 0)), (6, .s (.vw 41 Y40)), (8, .s (.own 2 YI))], boxes := [(2, [.own 2 YI, .dat YI, .own 2 YI, .dat .bool, .dat .bool, .dat .bool, .dat YI, .own 2 YI, .own 2 YI]), (5, [.dat Y24, .dat YI, .own 2 YI, .dat .bool, .dat .bool, .dat .bool, .dat YI, .dat Y24, .own 2 YI]), (9000000, [.dat Y22, .dat YI])], rows := [] })]
def l_z_11 (rec : i_z_11.den → Option (denO o_z_11)) (u11 : i_z_11.den) : Option (denO o_z_11) :=
 let v16 := ((u11.1.2.2.2.2.2.1.length : Nat) : Int)
 if (ltI u11.1.2.2.2.2.2.2.1 v16) then
 if 0 ≤ u11.1.2.2.2.2.2.2.1 ∧ u11.1.2.2.2.2.2.2.1 < ((u11.1.2.2.2.2.2.1.length : Nat) : Int) then
  ((u11.1.2.2.2.2.2.1)[(u11.1.2.2.2.2.2.2.1).toNat]?).bind fun y17 =>
  if 0 ≤ u11.1.2.2.2.2.2.2.1 ∧ u11.1.2.2.2.2.2.2.1 < ((u11.1.2.2.2.2.1.length : Nat) : Int) then
  ((u11.1.2.2.2.2.1)[(u11.1.2.2.2.2.2.2.1).toNat]?).bind fun y18 =>
  let v19 := (u11.1.2.2.2.2.1.set (u11.1.2.2.2.2.2.2.1).toNat y17)
  let v20 := (IntKind.i64.wrap (u11.1.2.2.2.2.2.2.1 + (1 : Int)))
  rec (((), ((), ((), ((u11.1.2.2.2.1.1, (u11.1.2.2.2.1.2.1, u11.1.2.2.2.1.2.2)), (v19, (u11.1.2.2.2.2.2.1, (v20, ()))))))), ((u11.2.1.1, (u11.2.1.2.1, (u11.2.1.2.2.1, ()))), ()))
  else none
 else none
 else
 some (.inl (((), ((), ((), ((u11.1.2.2.2.1.1, (u11.1.2.2.2.1.2.1, u11.1.2.2.2.1.2.2)), (u11.1.2.2.2.2.1, ()))))), ((u11.2.1.1, (u11.2.1.2.1, (u11.2.1.2.2.1, ()))), ())))
def L_z_11 (x : i_z_11.den) : Option (denO o_z_11) := iterF l_z_11 lots x
abbrev i_z_5 : Shp := { slots := [(0, .s (.ptr 9000000 0)), (2, .s (.ptr 2 0)), (5, .s (.ptr 5 0)), (6, .s (.vw 41 Y40)), (7, .s (.dat YI))], boxes := [(2, [.own 2 YI, .dat YI, .own 2 YI, .dat .bool, .dat .bool, .dat .bool, .dat YI, .own 2 YI, .own 2 YI]), (5, [.dat Y24, .dat YI, .own 2 YI, .dat .bool, .dat .bool, .dat .bool, .dat YI, .dat Y24, .own 2 YI]), (9000000, [.dat Y22, .dat YI])], rows := [] }
abbrev o_z_5 : List (Ex × Shp) := [(.exit 0, { slots := [(0, .s (.ptr 9000000 0)), (2, .s (.ptr 2 0)), (5, .s (.ptr 5 0)), (6, .s (.vw 41 Y40))], boxes := [(2, [.own 2 YI, .dat YI, .own 2 YI, .dat .bool, .dat .bool, .dat .bool, .dat YI, .own 2 YI, .own 2 YI]), (5, [.dat Y24, .dat YI, .own 2 YI, .dat .bool, .dat .bool, .dat .bool, .dat YI, .dat Y24, .own 2 YI]), (9000000, [.dat Y22, .dat YI])], rows := [] })]
def l_z_5 (rec : i_z_5.den → Option (denO o_z_5)) (u5 : i_z_5.den) : Option (denO o_z_5) :=
 if (ltI u5.1.2.2.2.2.1 (5 : Int)) then
 let v5 := ((u5.1.2.2.2.1.2.2 : Nat) : Int)
 if v5 = 0 then none else
 let v6 := ((u5.1.2.2.2.2.1).tmod v5)
 if 0 ≤ v6 ∧ v6 < ((u5.1.2.2.2.1.2.2 : Nat) : Int) then
  ((u5.1.2.2.2.1.1)[(u5.1.2.2.2.1.2.1 + (v6).toNat)]?).bind fun y7 =>
  let v8 := (u5.1.2.2.2.1.1.set (u5.1.2.2.2.1.2.1 + (v6).toNat) (u5.1.2.2.2.2.1, ((7 : Int), ())))
  let v9 := (IntKind.i64.wrap (u5.1.2.2.2.2.1 + (1 : Int)))
  rec (((), ((), ((), ((v8, (u5.1.2.2.2.1.2.1, u5.1.2.2.2.1.2.2)), (v9, ()))))), ((u5.2.1.1, (u5.2.1.2.1, (u5.2.1.2.2.1, ()))), ()))
 else none
 else
 some (.inl (((), ((), ((), ((u5.1.2.2.2.1.1, (u5.1.2.2.2.1.2.1, u5.1.2.2.2.1.2.2)), ())))), ((u5.2.1.1, (u5.2.1.2.1, (u5.2.1.2.2.1, ()))), ())))
def L_z_5 (x : i_z_5.den) : Option (denO o_z_5) := iterF l_z_5 lots x
def F_z (x : denP P_z) : Option (denV R_z × denQ P_z) :=
 (F_n (x.1, ())).bind fun r1 =>
 (F_q (r1.2.1, (6 : Int), ())).bind fun r2 =>
 (F_h (r2.2.1, (3 : Int), ())).bind fun r3 =>
 if (!r3.1.1) then
 (L_z_5 (((), ((), ((), ((r2.1.1.1, (r2.1.1.2.1, r2.1.1.2.2)), ((0 : Int), ()))))), (((([] : List (den YI)), ((0 : Int), (([] : List (den YI)), (false, (false, (false, ((0 : Int), (([] : List (den YI)), (([] : List (den YI)), ()))))))))), (r1.1.1, (r3.2.1, ()))), ()))).bind fun z10 =>
 match z10 with
 | .inl x11 =>
  (F_r ((6 : Int), ())).bind fun r12 =>
  (F_x (x11.2.1.2.2.1, (40 : Int), ())).bind fun r13 =>
  (L_z_11 (((), ((), ((), ((x11.1.2.2.2.1.1, (x11.1.2.2.2.1.2.1, x11.1.2.2.2.1.2.2)), (r12.1.1.2.1, (r13.1.1, ((0 : Int), ()))))))), ((x11.2.1.1, (x11.2.1.2.1, (r13.2.1, ()))), ()))).bind fun z21 =>
  match z21 with
  | .inl x22 =>
  (F_h (x22.2.1.2.2.1, (4 : Int), ())).bind fun r23 =>
  if r23.1.1 then
   (L_z_16 (((), ((), ((), ((x22.1.2.2.2.1.1, (x22.1.2.2.2.1.2.1, x22.1.2.2.2.1.2.2)), (x22.1.2.2.2.2.1, ((0 : Int), ())))))), ((x22.2.1.1, (x22.2.1.2.1, (r23.2.1, ()))), ()))).bind fun z35 =>
   match z35 with
   | .inl x36 =>
   let v37 := ((x36.2.1.2.1.2.2.1.length : Nat) : Int)
   if (v37 == (11 : Int)) then
    if 0 ≤ (10 : Int) ∧ (10 : Int) < ((x36.2.1.2.1.2.2.1.length : Nat) : Int) then
    ((x36.2.1.2.1.2.2.1)[((10 : Int)).toNat]?).bind fun y38 =>
    let v39 := (x36.2.1.2.1.2.2.1.set ((10 : Int)).toNat (2 : Int))
    (F_h (x36.2.1.2.2.1, (20 : Int), ())).bind fun r40 =>
    if r40.1.1 then
     (F_y (r40.2.1, ())).bind fun r41 =>
     some (((x36.2.1.2.1.1, (x36.2.1.2.1.2.1, (v39, (x36.2.1.2.1.2.2.2.1, (x36.2.1.2.1.2.2.2.2.1, (x36.2.1.2.1.2.2.2.2.2.1, (x36.2.1.2.1.2.2.2.2.2.2.1, (x36.2.1.2.1.2.2.2.2.2.2.2.1, (x36.2.1.2.1.2.2.2.2.2.2.2.2.1, ()))))))))), ((x36.1.2.2.2.1.1.drop x36.1.2.2.2.1.2.1).take x36.1.2.2.2.1.2.2), r41.1.1, ()), (r41.2.1, ()))
    else
     some (((x36.2.1.2.1.1, (x36.2.1.2.1.2.1, (v39, (x36.2.1.2.1.2.2.2.1, (x36.2.1.2.1.2.2.2.2.1, (x36.2.1.2.1.2.2.2.2.2.1, (x36.2.1.2.1.2.2.2.2.2.2.1, (x36.2.1.2.1.2.2.2.2.2.2.2.1, (x36.2.1.2.1.2.2.2.2.2.2.2.2.1, ()))))))))), ((x36.1.2.2.2.1.1.drop x36.1.2.2.2.1.2.1).take x36.1.2.2.2.1.2.2), x36.1.2.2.2.2.1, ()), (r40.2.1, ()))
    else none
   else
    (F_h (x36.2.1.2.2.1, (20 : Int), ())).bind fun r42 =>
    if r42.1.1 then
    (F_y (r42.2.1, ())).bind fun r43 =>
    some ((x36.2.1.2.1, ((x36.1.2.2.2.1.1.drop x36.1.2.2.2.1.2.1).take x36.1.2.2.2.1.2.2), r43.1.1, ()), (r43.2.1, ()))
    else
    some ((x36.2.1.2.1, ((x36.1.2.2.2.1.1.drop x36.1.2.2.2.1.2.1).take x36.1.2.2.2.1.2.2), x36.1.2.2.2.2.1, ()), (r42.2.1, ()))
   | .inr z35_ =>
   none
  else
   (F_h (r23.2.1, (20 : Int), ())).bind fun r44 =>
   if r44.1.1 then
   (F_y (r44.2.1, ())).bind fun r45 =>
   some ((x22.2.1.2.1, ((x22.1.2.2.2.1.1.drop x22.1.2.2.2.1.2.1).take x22.1.2.2.2.1.2.2), r45.1.1, ()), (r45.2.1, ()))
   else
   some ((x22.2.1.2.1, ((x22.1.2.2.2.1.1.drop x22.1.2.2.2.1.2.1).take x22.1.2.2.2.1.2.2), x22.1.2.2.2.2.1, ()), (r44.2.1, ()))
  | .inr z21_ =>
  none
 | .inr z10_ =>
  none
 else
 (F_r ((6 : Int), ())).bind fun r46 =>
 (F_x (r3.2.1, (40 : Int), ())).bind fun r47 =>
 (L_z_11 (((), ((), ((), ((r2.1.1.1, (r2.1.1.2.1, r2.1.1.2.2)), (r46.1.1.2.1, (r47.1.1, ((0 : Int), ()))))))), (((([] : List (den YI)), ((0 : Int), (([] : List (den YI)), (false, (false, (false, ((0 : Int), (([] : List (den YI)), (([] : List (den YI)), ()))))))))), (r1.1.1, (r47.2.1, ()))), ()))).bind fun z48 =>
 match z48 with
 | .inl x49 =>
  (F_h (x49.2.1.2.2.1, (4 : Int), ())).bind fun r50 =>
  if r50.1.1 then
  (L_z_16 (((), ((), ((), ((x49.1.2.2.2.1.1, (x49.1.2.2.2.1.2.1, x49.1.2.2.2.1.2.2)), (x49.1.2.2.2.2.1, ((0 : Int), ())))))), ((x49.2.1.1, (x49.2.1.2.1, (r50.2.1, ()))), ()))).bind fun z51 =>
  match z51 with
  | .inl x52 =>
   let v53 := ((x52.2.1.2.1.2.2.1.length : Nat) : Int)
   if (v53 == (11 : Int)) then
   if 0 ≤ (10 : Int) ∧ (10 : Int) < ((x52.2.1.2.1.2.2.1.length : Nat) : Int) then
    ((x52.2.1.2.1.2.2.1)[((10 : Int)).toNat]?).bind fun y54 =>
    let v55 := (x52.2.1.2.1.2.2.1.set ((10 : Int)).toNat (2 : Int))
    (F_h (x52.2.1.2.2.1, (20 : Int), ())).bind fun r56 =>
    if r56.1.1 then
    (F_y (r56.2.1, ())).bind fun r57 =>
    some (((x52.2.1.2.1.1, (x52.2.1.2.1.2.1, (v55, (x52.2.1.2.1.2.2.2.1, (x52.2.1.2.1.2.2.2.2.1, (x52.2.1.2.1.2.2.2.2.2.1, (x52.2.1.2.1.2.2.2.2.2.2.1, (x52.2.1.2.1.2.2.2.2.2.2.2.1, (x52.2.1.2.1.2.2.2.2.2.2.2.2.1, ()))))))))), ((x52.1.2.2.2.1.1.drop x52.1.2.2.2.1.2.1).take x52.1.2.2.2.1.2.2), r57.1.1, ()), (r57.2.1, ()))
    else
    some (((x52.2.1.2.1.1, (x52.2.1.2.1.2.1, (v55, (x52.2.1.2.1.2.2.2.1, (x52.2.1.2.1.2.2.2.2.1, (x52.2.1.2.1.2.2.2.2.2.1, (x52.2.1.2.1.2.2.2.2.2.2.1, (x52.2.1.2.1.2.2.2.2.2.2.2.1, (x52.2.1.2.1.2.2.2.2.2.2.2.2.1, ()))))))))), ((x52.1.2.2.2.1.1.drop x52.1.2.2.2.1.2.1).take x52.1.2.2.2.1.2.2), x52.1.2.2.2.2.1, ()), (r56.2.1, ()))
   else none
   else
   (F_h (x52.2.1.2.2.1, (20 : Int), ())).bind fun r58 =>
   if r58.1.1 then
    (F_y (r58.2.1, ())).bind fun r59 =>
    some ((x52.2.1.2.1, ((x52.1.2.2.2.1.1.drop x52.1.2.2.2.1.2.1).take x52.1.2.2.2.1.2.2), r59.1.1, ()), (r59.2.1, ()))
   else
    some ((x52.2.1.2.1, ((x52.1.2.2.2.1.1.drop x52.1.2.2.2.1.2.1).take x52.1.2.2.2.1.2.2), x52.1.2.2.2.2.1, ()), (r58.2.1, ()))
  | .inr z51_ =>
   none
  else
  (F_h (r50.2.1, (20 : Int), ())).bind fun r60 =>
  if r60.1.1 then
   (F_y (r60.2.1, ())).bind fun r61 =>
   some ((x49.2.1.2.1, ((x49.1.2.2.2.1.1.drop x49.1.2.2.2.1.2.1).take x49.1.2.2.2.1.2.2), r61.1.1, ()), (r61.2.1, ()))
  else
   some ((x49.2.1.2.1, ((x49.1.2.2.2.1.1.drop x49.1.2.2.2.1.2.1).take x49.1.2.2.2.1.2.2), x49.1.2.2.2.2.1, ()), (r60.2.1, ()))
 | .inr z48_ =>
  none
abbrev C_z : Con := ⟨P_z, R_z, F_z, false⟩
abbrev G_z : Env := [(54, C_c), (130, C_n), (131, C_q), (132, C_h), (133, C_r), (134, C_x), (135, C_y)]
theorem g_z : EnvOk Tryz.prog G_z := (env_cons s_c (env_cons s_n (env_cons s_q (env_cons s_h (env_cons s_r (env_cons s_x (env_cons s_y env_nil)))))))
abbrev c_z_16 : Cut := ⟨i_z_16, o_z_16, fun x => iterF l_z_16 lots x⟩
theorem t_z_16 (rec x) : run T G_z [] (nav Tryz.f52 [1, 1, 1, 1, 1, 1, 1, 0, 1, 0, 0, 1, 0, 0]) (mk 78 i_z_16 x) (loopK i_z_16 o_z_16 rec) = l_z_16 rec x := by kernel_rfl
theorem k_z_16 : CutOk Tryz.prog 78 (.loop (nav Tryz.f52 [1, 1, 1, 1, 1, 1, 1, 0, 1, 0, 0, 1, 0, 0])) c_z_16 :=
 loop_cut (L := []) hT g_z t_z_16 (plain_ok (by kernel_rfl)) _
abbrev c_z_11 : Cut := ⟨i_z_11, o_z_11, fun x => iterF l_z_11 lots x⟩
theorem t_z_11 (rec x) : run T G_z [] (nav Tryz.f52 [1, 1, 1, 1, 1, 1, 0, 1, 0, 0]) (mk 78 i_z_11 x) (loopK i_z_11 o_z_11 rec) = l_z_11 rec x := by kernel_rfl
theorem k_z_11 : CutOk Tryz.prog 78 (.loop (nav Tryz.f52 [1, 1, 1, 1, 1, 1, 0, 1, 0, 0])) c_z_11 :=
 loop_cut (L := []) hT g_z t_z_11 (plain_ok (by kernel_rfl)) _
abbrev c_z_5 : Cut := ⟨i_z_5, o_z_5, fun x => iterF l_z_5 lots x⟩
theorem t_z_5 (rec x) : run T G_z [] (nav Tryz.f52 [1, 1, 1, 0, 1, 0, 1, 0, 0]) (mk 78 i_z_5 x) (loopK i_z_5 o_z_5 rec) = l_z_5 rec x := by kernel_rfl
theorem k_z_5 : CutOk Tryz.prog 78 (.loop (nav Tryz.f52 [1, 1, 1, 0, 1, 0, 1, 0, 0])) c_z_5 :=
 loop_cut (L := []) hT g_z t_z_5 (plain_ok (by kernel_rfl)) _
theorem r_z (x) : runFn T G_z [(16, c_z_16), (11, c_z_11), (5, c_z_5)] Tryz.f52 P_z R_z x = F_z x := by kernel_rfl
theorem s_z : CallsOk Tryz.prog 52 C_z :=
 fn_calls (L := [(16, c_z_16), (11, c_z_11), (5, c_z_5)]) hT g_z Tryz.f52 (by kernel_rfl) (by kernel_rfl) (by kernel_rfl) (seq_ok (plain_ok (by kernel_rfl)) (seq_ok (plain_ok (by kernel_rfl)) (seq_ok (plain_ok (by kernel_rfl)) (seq_ok (seq_ok (plain_ok (by kernel_rfl)) (cond_ok (seq_ok (plain_ok (by kernel_rfl)) (block_ok (by kernel_rfl) (loop_ok (by kernel_rfl) k_z_5))) (plain_ok (by kernel_rfl)))) (seq_ok (plain_ok (by kernel_rfl)) (seq_ok (plain_ok (by kernel_rfl)) (seq_ok (seq_ok (plain_ok (by kernel_rfl)) (block_ok (by kernel_rfl) (loop_ok (by kernel_rfl) k_z_11))) (seq_ok (seq_ok (plain_ok (by kernel_rfl)) (cond_ok (seq_ok (seq_ok (plain_ok (by kernel_rfl)) (block_ok (by kernel_rfl) (loop_ok (by kernel_rfl) k_z_16))) (plain_ok (by kernel_rfl))) (plain_ok (by kernel_rfl)))) (plain_ok (by kernel_rfl)))))))))) r_z
/-! spec.DrawNextIns -/
abbrev P_dr : List PK := [.val Y22]
abbrev R_dr : List VK := [.g [.dat Y24, .dat YI, .own 2 YI, .dat .bool, .dat .bool, .dat .bool, .dat YI, .dat Y24, .own 2 YI], .s (.dat Y27), .s (.dat Y24)]
def F_dr (x : denP P_dr) : Option (denV R_dr × denQ P_dr) :=
 (F_b (x.1, ())).bind fun r1 =>
 (F_z ((r1.1.1.1, (r1.1.1.2.1, ())), ())).bind fun r2 =>
 some ((r2.1.1, r2.1.2.1, r2.1.2.2.1, ()), ())
abbrev C_dr : Con := ⟨P_dr, R_dr, F_dr, false⟩
abbrev G_dr : Env := [(51, C_b), (52, C_z)]
theorem g_dr : EnvOk Tryz.prog G_dr := (env_cons s_b (env_cons s_z env_nil))
theorem r_dr (x) : runFn T G_dr [] Tryz.f22 P_dr R_dr x = F_dr x := by kernel_rfl
theorem s_dr : CallsOk Tryz.prog 22 C_dr :=
 fn_calls (L := []) hT g_dr Tryz.f22 (by kernel_rfl) (by kernel_rfl) (by kernel_rfl) (plain_ok (by kernel_rfl)) r_dr
/-! impl.within -/
abbrev P_ab : List PK := [.val YI, .val YI, .val YI]
abbrev R_ab : List VK := [.s (.dat .bool)]
def F_ab (x : denP P_ab) : Option (denV R_ab × denQ P_ab) :=
 if (leI x.2.1 x.1) = true then
 some (((leI x.1 x.2.2.1), ()), ())
 else
 some ((false, ()), ())
abbrev C_ab : Con := ⟨P_ab, R_ab, F_ab, false⟩
abbrev G_ab : Env := []
theorem g_ab : EnvOk Tryz.prog G_ab := env_nil
theorem r_ab (x) : runFn T G_ab [] Tryz.f56 P_ab R_ab x = F_ab x := by kernel_rfl
theorem s_ab : CallsOk Tryz.prog 56 C_ab :=
 fn_calls (L := []) hT g_ab Tryz.f56 (by kernel_rfl) (by kernel_rfl) (by kernel_rfl) (plain_ok (by kernel_rfl)) r_ab
/-! impl.isWord -/
abbrev P_ac : List PK := [.val YI]
abbrev R_ac : List VK := [.s (.dat .bool)]
def F_ac (x : denP P_ac) : Option (denV R_ac × denQ P_ac) :=
 (F_ab (x.1, (0 : Int), (4294967295 : Int), ())).bind fun r1 =>
 some ((r1.1.1, ()), ())
abbrev C_ac : Con := ⟨P_ac, R_ac, F_ac, false⟩
abbrev G_ac : Env := [(56, C_ab)]
theorem g_ac : EnvOk Tryz.prog G_ac := (env_cons s_ab env_nil)
theorem r_ac (x) : runFn T G_ac [] Tryz.f63 P_ac R_ac x = F_ac x := by kernel_rfl
theorem s_ac : CallsOk Tryz.prog 63 C_ac :=
 fn_calls (L := []) hT g_ac Tryz.f63 (by kernel_rfl) (by kernel_rfl) (by kernel_rfl) (plain_ok (by kernel_rfl)) r_ac
/-! impl.areWords.1 -/
abbrev P_ad_1 : List PK := [.val YI]
abbrev R_ad_1 : List VK := [.s (.dat .bool)]
def F_ad_1 (x : denP P_ad_1) : Option (denV R_ad_1 × denQ P_ad_1) :=
 (F_ac (x.1, ())).bind fun r1 =>
 some (((!r1.1.1), ()), ())
abbrev C_ad_1 : Con := ⟨P_ad_1, R_ad_1, F_ad_1, false⟩
abbrev G_ad_1 : Env := [(63, C_ac)]
theorem g_ad_1 : EnvOk Tryz.prog G_ad_1 := (env_cons s_ac env_nil)
theorem r_ad_1 (x) : runFn T G_ad_1 [] Tryz.f153 P_ad_1 R_ad_1 x = F_ad_1 x := by kernel_rfl
theorem s_ad_1 : CallsOk Tryz.prog 153 C_ad_1 :=
 fn_calls (L := []) hT g_ad_1 Tryz.f153 (by kernel_rfl) (by kernel_rfl) (by kernel_rfl) (plain_ok (by kernel_rfl)) r_ad_1
/-! slices.IndexFunc[int64,int64] -/
abbrev P_ae_1 : List PK := [.val Y24, .fn 153 []]
abbrev R_ae_1 : List VK := [.s (.dat YI)]
abbrev i_af_2 : Shp := { slots := [(0, .s (.dat Y24)), (1, .s (.fn 153 [])), (7, .s (.dat YI)), (8, .s (.dat YI))], boxes := [], rows := [] }
abbrev o_af_2 : List (Ex × Shp) := [(.exit 0, { slots := [], boxes := [], rows := [] }), (.ret, { slots := [(4, .s (.dat YI))], boxes := [], rows := [] })]
def l_af_2 (rec : i_af_2.den → Option (denO o_af_2)) (u2 : i_af_2.den) : Option (denO o_af_2) :=
 if (ltI u2.1.2.2.2.1 u2.1.2.2.1) then
 if 0 ≤ u2.1.2.2.2.1 then
  ((u2.1.1)[(u2.1.2.2.2.1).toNat]?).bind fun y4 =>
  (F_ad_1 (y4, ())).bind fun r5 =>
  if r5.1.1 then
  some (.inr (.inl ((u2.1.2.2.2.1, ()), ((), ()))))
  else
  let v6 := (IntKind.i64.wrap (u2.1.2.2.2.1 + (1 : Int)))
  rec ((u2.1.1, ((), (u2.1.2.2.1, (v6, ())))), ((), ()))
 else none
 else
 some (.inl ((), ((), ())))
def L_af_2 (x : i_af_2.den) : Option (denO o_af_2) := iterF l_af_2 lots x
def F_ae_1 (x : denP P_ae_1) : Option (denV R_ae_1 × denQ P_ae_1) :=
 let v1 := ((x.1.length : Nat) : Int)
 (L_af_2 ((x.1, ((), (v1, ((0 : Int), ())))), ((), ()))).bind fun z7 =>
 match z7 with
 | .inl x8 =>
 some (((-1 : Int), ()), ())
 | .inr z7_ =>
 match z7_ with
 | .inl x9 =>
  some ((x9.1.1, ()), ())
 | .inr z7__ =>
  none
abbrev C_ae_1 : Con := ⟨P_ae_1, R_ae_1, F_ae_1, false⟩
abbrev G_ae_1 : Env := [(153, C_ad_1)]
theorem g_ae_1 : EnvOk Tryz.prog G_ae_1 := (env_cons s_ad_1 env_nil)
abbrev c_af_2 : Cut := ⟨i_af_2, o_af_2, fun x => iterF l_af_2 lots x⟩
theorem t_af_2 (rec x) : run T G_ae_1 [] (nav Tryz.f230 [1, 0, 1, 0, 0]) (mk 19 i_af_2 x) (loopK i_af_2 o_af_2 rec) = l_af_2 rec x := by kernel_rfl
theorem k_af_2 : CutOk Tryz.prog 19 (.loop (nav Tryz.f230 [1, 0, 1, 0, 0])) c_af_2 :=
 loop_cut (L := []) hT g_ae_1 t_af_2 (plain_ok (by kernel_rfl)) _
theorem r_ae_1 (x) : runFn T G_ae_1 [(2, c_af_2)] Tryz.f230 P_ae_1 R_ae_1 x = F_ae_1 x := by kernel_rfl
theorem s_ae_1 : CallsOk Tryz.prog 230 C_ae_1 :=
 fn_calls (L := [(2, c_af_2)]) hT g_ae_1 Tryz.f230 (by kernel_rfl) (by kernel_rfl) (by kernel_rfl) (seq_ok (plain_ok (by kernel_rfl)) (seq_ok (seq_ok (plain_ok (by kernel_rfl)) (block_ok (by kernel_rfl) (loop_ok (by kernel_rfl) k_af_2))) (plain_ok (by kernel_rfl)))) r_ae_1
/-! slices.ContainsFunc[int64,int64] -/
abbrev P_ag_1 : List PK := [.val Y24, .fn 153 []]
abbrev R_ag_1 : List VK := [.s (.dat .bool)]
def F_ag_1 (x : denP P_ag_1) : Option (denV R_ag_1 × denQ P_ag_1) :=
 (F_ae_1 (x.1, (), ())).bind fun r1 =>
 some (((leI (0 : Int) r1.1.1), ()), ())
abbrev C_ag_1 : Con := ⟨P_ag_1, R_ag_1, F_ag_1, false⟩
abbrev G_ag_1 : Env := [(230, C_ae_1)]
theorem g_ag_1 : EnvOk Tryz.prog G_ag_1 := (env_cons s_ae_1 env_nil)
theorem r_ag_1 (x) : runFn T G_ag_1 [] Tryz.f152 P_ag_1 R_ag_1 x = F_ag_1 x := by kernel_rfl
theorem s_ag_1 : CallsOk Tryz.prog 152 C_ag_1 :=
 fn_calls (L := []) hT g_ag_1 Tryz.f152 (by kernel_rfl) (by kernel_rfl) (by kernel_rfl) (plain_ok (by kernel_rfl)) r_ag_1
/-! impl.areWords -/
abbrev P_ad : List PK := [.val Y24]
abbrev R_ad : List VK := [.s (.dat .bool)]
def F_ad (x : denP P_ad) : Option (denV R_ad × denQ P_ad) :=
 (F_ag_1 (x.1, (), ())).bind fun r1 =>
 some (((!r1.1.1), ()), ())
abbrev C_ad : Con := ⟨P_ad, R_ad, F_ad, false⟩
abbrev G_ad : Env := [(152, C_ag_1)]
theorem g_ad : EnvOk Tryz.prog G_ad := (env_cons s_ag_1 env_nil)
theorem r_ad (x) : runFn T G_ad [] Tryz.f62 P_ad R_ad x = F_ad x := by kernel_rfl
theorem s_ad : CallsOk Tryz.prog 62 C_ad :=
 fn_calls (L := []) hT g_ad Tryz.f62 (by kernel_rfl) (by kernel_rfl) (by kernel_rfl) (plain_ok (by kernel_rfl)) r_ad
/-! impl.HartFault -/
abbrev P_ah : List PK := [.val Y25]
abbrev R_ah : List VK := [.s (.dat YI)]
def F_ah (x : denP P_ah) : Option (denV R_ah × denQ P_ah) :=
 let v1 := ((x.1.1.length : Nat) : Int)
 if (v1 != (16 : Int)) = false then
 let v2 := ((x.1.2.2.1.length : Nat) : Int)
 if (v2 != (11 : Int)) = false then
  ((x.1.1)[((0 : Int)).toNat]?).bind fun y3 =>
  if (y3 != (0 : Int)) then
  some (((1 : Int), ()), ())
  else
  (F_ad (x.1.1, ())).bind fun r4 =>
  if (!r4.1.1) = false then
   (F_ac (x.1.2.1, ())).bind fun r5 =>
   if (!r5.1.1) = false then
   (F_ad (x.1.2.2.1, ())).bind fun r6 =>
   if (!r6.1.1) = false then
    (F_ad (x.1.2.2.2.2.2.2.2.1, ())).bind fun r7 =>
    if (!r7.1.1) = false then
    (F_ad (x.1.2.2.2.2.2.2.2.2.1, ())).bind fun r8 =>
    if (!r8.1.1) then
     some (((3 : Int), ()), ())
    else
     let v9 := ((x.1.2.2.2.2.2.2.2.1.length : Nat) : Int)
     if (ltI (40 : Int) v9) = false then
     let v10 := ((x.1.2.2.2.2.2.2.2.2.1.length : Nat) : Int)
     if (ltI (40 : Int) v10) then
      some (((2 : Int), ()), ())
     else
      (F_ab (x.1.2.2.2.2.2.2.1, (0 : Int), (1000000000 : Int), ())).bind fun r11 =>
      if (!r11.1.1) then
      some (((3 : Int), ()), ())
      else
      ((x.1.2.2.1)[((0 : Int)).toNat]?).bind fun y12 =>
      if (ltI (3 : Int) y12) = false then
       ((x.1.2.2.1)[((7 : Int)).toNat]?).bind fun y13 =>
       if (ltI (7 : Int) y13) = false then
       ((x.1.2.2.1)[((10 : Int)).toNat]?).bind fun y14 =>
       if (ltI (8 : Int) y14) = false then
        ((x.1.2.2.1)[((6 : Int)).toNat]?).bind fun y15 =>
        if (y15 != (0 : Int)) = false then
        ((x.1.2.2.1)[((8 : Int)).toNat]?).bind fun y16 =>
        if (y16 != (0 : Int)) then
         some (((1 : Int), ()), ())
        else
         some (((0 : Int), ()), ())
        else
        some (((1 : Int), ()), ())
       else
        some (((1 : Int), ()), ())
       else
       some (((1 : Int), ()), ())
      else
       some (((1 : Int), ()), ())
     else
     some (((2 : Int), ()), ())
    else
    some (((3 : Int), ()), ())
   else
    some (((3 : Int), ()), ())
   else
   some (((3 : Int), ()), ())
  else
   some (((3 : Int), ()), ())
 else
  some (((1 : Int), ()), ())
 else
 some (((1 : Int), ()), ())
abbrev C_ah : Con := ⟨P_ah, R_ah, F_ah, false⟩
abbrev G_ah : Env := [(56, C_ab), (62, C_ad), (63, C_ac)]
theorem g_ah : EnvOk Tryz.prog G_ah := (env_cons s_ab (env_cons s_ad (env_cons s_ac env_nil)))
theorem r_ah (x) : runFn T G_ah [] Tryz.f20 P_ah R_ah x = F_ah x := by kernel_rfl
theorem s_ah : CallsOk Tryz.prog 20 C_ah :=
 fn_calls (L := []) hT g_ah Tryz.f20 (by kernel_rfl) (by kernel_rfl) (by kernel_rfl) (plain_ok (by kernel_rfl)) r_ah
/-! impl.PagesFault -/
abbrev P_ai : List PK := [.val Y27, .val YI]
abbrev R_ai : List VK := [.s (.dat YI)]
abbrev i_ai_6 : Shp := { slots := [(1, .s (.dat YI)), (15, .s (.dat Y27)), (16, .s (.dat YI)), (17, .s (.dat YI))], boxes := [], rows := [] }
abbrev o_ai_6 : List (Ex × Shp) := [(.exit 1, { slots := [], boxes := [], rows := [] }), (.ret, { slots := [(4, .s (.dat YI))], boxes := [], rows := [] })]
def l_ai_6 (rec : i_ai_6.den → Option (denO o_ai_6)) (u6 : i_ai_6.den) : Option (denO o_ai_6) :=
 if (ltI u6.1.2.2.2.1 u6.1.2.2.1) then
 if 0 ≤ u6.1.2.2.2.1 then
  ((u6.1.2.1)[(u6.1.2.2.2.1).toNat]?).bind fun y7 =>
  let v8 := (IntKind.i64.wrap (u6.1.1 - (1 : Int)))
  (F_ab (y7.1, (-1 : Int), v8, ())).bind fun r9 =>
  if (!r9.1.1) = false then
  (F_ab (y7.2.1, (0 : Int), (7 : Int), ())).bind fun r10 =>
  if (!r10.1.1) then
   some (.inr (.inl (((3 : Int), ()), ((), ()))))
  else
   if (y7.1 == (-1 : Int)) = true then
   if (y7.2.1 != (0 : Int)) then
    some (.inr (.inl (((1 : Int), ()), ((), ()))))
   else
    let v11 := (IntKind.i64.wrap (u6.1.2.2.2.1 + (1 : Int)))
    rec ((u6.1.1, (u6.1.2.1, (u6.1.2.2.1, (v11, ())))), ((), ()))
   else
   let v12 := (IntKind.i64.wrap (u6.1.2.2.2.1 + (1 : Int)))
   rec ((u6.1.1, (u6.1.2.1, (u6.1.2.2.1, (v12, ())))), ((), ()))
  else
  some (.inr (.inl (((3 : Int), ()), ((), ()))))
 else none
 else
 some (.inl ((), ((), ())))
def L_ai_6 (x : i_ai_6.den) : Option (denO o_ai_6) := iterF l_ai_6 lots x
def F_ai (x : denP P_ai) : Option (denV R_ai × denQ P_ai) :=
 (F_ab (x.2.1, (1 : Int), (24 : Int), ())).bind fun r1 =>
 if (!r1.1.1) then
 some (((3 : Int), ()), ())
 else
 let v2 := ((x.1.length : Nat) : Int)
 if (v2 != (8 : Int)) then
  some (((1 : Int), ()), ())
 else
  let v3 := ((x.1.length : Nat) : Int)
  (L_ai_6 ((x.2.1, (x.1, (v3, ((0 : Int), ())))), ((), ()))).bind fun z13 =>
  match z13 with
  | .inl x14 =>
  some (((0 : Int), ()), ())
  | .inr z13_ =>
  match z13_ with
  | .inl x15 =>
   some ((x15.1.1, ()), ())
  | .inr z13__ =>
   none
abbrev C_ai : Con := ⟨P_ai, R_ai, F_ai, false⟩
abbrev G_ai : Env := [(56, C_ab)]
theorem g_ai : EnvOk Tryz.prog G_ai := (env_cons s_ab env_nil)
abbrev c_ai_6 : Cut := ⟨i_ai_6, o_ai_6, fun x => iterF l_ai_6 lots x⟩
theorem t_ai_6 (rec x) : run T G_ai [] (nav Tryz.f136 [1, 1, 0, 1, 0, 0]) (mk 44 i_ai_6 x) (loopK i_ai_6 o_ai_6 rec) = l_ai_6 rec x := by kernel_rfl
theorem k_ai_6 : CutOk Tryz.prog 44 (.loop (nav Tryz.f136 [1, 1, 0, 1, 0, 0])) c_ai_6 :=
 loop_cut (L := []) hT g_ai t_ai_6 (plain_ok (by kernel_rfl)) _
theorem r_ai (x) : runFn T G_ai [(6, c_ai_6)] Tryz.f136 P_ai R_ai x = F_ai x := by kernel_rfl
theorem s_ai : CallsOk Tryz.prog 136 C_ai :=
 fn_calls (L := [(6, c_ai_6)]) hT g_ai Tryz.f136 (by kernel_rfl) (by kernel_rfl) (by kernel_rfl) (seq_ok (plain_ok (by kernel_rfl)) (seq_ok (plain_ok (by kernel_rfl)) (seq_ok (seq_ok (plain_ok (by kernel_rfl)) (block_ok (by kernel_rfl) (loop_ok (by kernel_rfl) k_ai_6))) (plain_ok (by kernel_rfl))))) r_ai
/-! impl.firstOf -/
abbrev P_aj : List PK := [.val Y24]
abbrev R_aj : List VK := [.s (.dat YI)]
abbrev i_aj_2 : Shp := { slots := [(5, .s (.dat Y24)), (6, .s (.dat YI)), (7, .s (.dat YI))], boxes := [], rows := [] }
abbrev o_aj_2 : List (Ex × Shp) := [(.exit 0, { slots := [], boxes := [], rows := [] }), (.ret, { slots := [(2, .s (.dat YI))], boxes := [], rows := [] })]
def l_aj_2 (rec : i_aj_2.den → Option (denO o_aj_2)) (u2 : i_aj_2.den) : Option (denO o_aj_2) :=
 if (ltI u2.1.2.2.1 u2.1.2.1) then
 if 0 ≤ u2.1.2.2.1 then
  ((u2.1.1)[(u2.1.2.2.1).toNat]?).bind fun y3 =>
  if (y3 != (0 : Int)) then
  some (.inr (.inl ((y3, ()), ((), ()))))
  else
  let v4 := (IntKind.i64.wrap (u2.1.2.2.1 + (1 : Int)))
  rec ((u2.1.1, (u2.1.2.1, (v4, ()))), ((), ()))
 else none
 else
 some (.inl ((), ((), ())))
def L_aj_2 (x : i_aj_2.den) : Option (denO o_aj_2) := iterF l_aj_2 lots x
def F_aj (x : denP P_aj) : Option (denV R_aj × denQ P_aj) :=
 let v1 := ((x.1.length : Nat) : Int)
 (L_aj_2 ((x.1, (v1, ((0 : Int), ()))), ((), ()))).bind fun z5 =>
 match z5 with
 | .inl x6 =>
 some (((0 : Int), ()), ())
 | .inr z5_ =>
 match z5_ with
 | .inl x7 =>
  some ((x7.1.1, ()), ())
 | .inr z5__ =>
  none
abbrev C_aj : Con := ⟨P_aj, R_aj, F_aj, false⟩
abbrev G_aj : Env := []
theorem g_aj : EnvOk Tryz.prog G_aj := env_nil
abbrev c_aj_2 : Cut := ⟨i_aj_2, o_aj_2, fun x => iterF l_aj_2 lots x⟩
theorem t_aj_2 (rec x) : run T G_aj [] (nav Tryz.f87 [1, 0, 1, 0, 0]) (mk 15 i_aj_2 x) (loopK i_aj_2 o_aj_2 rec) = l_aj_2 rec x := by kernel_rfl
theorem k_aj_2 : CutOk Tryz.prog 15 (.loop (nav Tryz.f87 [1, 0, 1, 0, 0])) c_aj_2 :=
 loop_cut (L := []) hT g_aj t_aj_2 (plain_ok (by kernel_rfl)) _
theorem r_aj (x) : runFn T G_aj [(2, c_aj_2)] Tryz.f87 P_aj R_aj x = F_aj x := by kernel_rfl
theorem s_aj : CallsOk Tryz.prog 87 C_aj :=
 fn_calls (L := [(2, c_aj_2)]) hT g_aj Tryz.f87 (by kernel_rfl) (by kernel_rfl) (by kernel_rfl) (seq_ok (plain_ok (by kernel_rfl)) (seq_ok (seq_ok (plain_ok (by kernel_rfl)) (block_ok (by kernel_rfl) (loop_ok (by kernel_rfl) k_aj_2))) (plain_ok (by kernel_rfl)))) r_aj
/-! impl.MemoryFault -/
abbrev P_ak : List PK := [.val Y24]
abbrev R_ak : List VK := [.s (.dat YI)]
def F_ak (x : denP P_ak) : Option (denV R_ak × denQ P_ak) :=
 let v1 := ((x.1.length : Nat) : Int)
 if (v1 == (0 : Int)) = false then
 let v2 := ((x.1.length : Nat) : Int)
 if (ltI (192 : Int) v2) = false then
  let v3 := ((x.1.length : Nat) : Int)
  let v4 := ((v3).tmod (8 : Int))
  if (v4 != (0 : Int)) then
  some (((1 : Int), ()), ())
  else
  (F_ad (x.1, ())).bind fun r5 =>
  if (!r5.1.1) then
   some (((3 : Int), ()), ())
  else
   some (((0 : Int), ()), ())
 else
  some (((1 : Int), ()), ())
 else
 some (((1 : Int), ()), ())
abbrev C_ak : Con := ⟨P_ak, R_ak, F_ak, false⟩
abbrev G_ak : Env := [(62, C_ad)]
theorem g_ak : EnvOk Tryz.prog G_ak := (env_cons s_ad env_nil)
theorem r_ak (x) : runFn T G_ak [] Tryz.f21 P_ak R_ak x = F_ak x := by kernel_rfl
theorem s_ak : CallsOk Tryz.prog 21 C_ak :=
 fn_calls (L := []) hT g_ak Tryz.f21 (by kernel_rfl) (by kernel_rfl) (by kernel_rfl) (plain_ok (by kernel_rfl)) r_ak
/-! impl.stepFault.1 -/
abbrev P_al_1 : List PK := [.val Y40, .ptr YI]
abbrev R_al_1 : List VK := [.s (.dat .bool)]
def F_al_1 (x : denP P_al_1) : Option (denV R_al_1 × denQ P_al_1) :=
 some (((leI x.2.1 x.1.1), ()), ())
abbrev C_al_1 : Con := ⟨P_al_1, R_al_1, F_al_1, false⟩
abbrev G_al_1 : Env := []
theorem g_al_1 : EnvOk Tryz.prog G_al_1 := env_nil
theorem r_al_1 (x) : runFn T G_al_1 [] Tryz.f138 P_al_1 R_al_1 x = F_al_1 x := by kernel_rfl
theorem s_al_1 : CallsOk Tryz.prog 138 C_al_1 :=
 fn_calls (L := []) hT g_al_1 Tryz.f138 (by kernel_rfl) (by kernel_rfl) (by kernel_rfl) (plain_ok (by kernel_rfl)) r_al_1
/-! slices.IndexFunc[impl.Page,impl.Page] -/
abbrev P_am_1 : List PK := [.val Y27, .fn 138 [YI]]
abbrev R_am_1 : List VK := [.s (.dat YI)]
abbrev i_an_2 : Shp := { slots := [(0, .s (.dat Y27)), (1, .s (.fn 138 [YI])), (7, .s (.dat YI)), (8, .s (.dat YI))], boxes := [], rows := [] }
abbrev o_an_2 : List (Ex × Shp) := [(.exit 0, { slots := [], boxes := [], rows := [] }), (.ret, { slots := [(4, .s (.dat YI))], boxes := [], rows := [] })]
def l_an_2 (rec : i_an_2.den → Option (denO o_an_2)) (u2 : i_an_2.den) : Option (denO o_an_2) :=
 if (ltI u2.1.2.2.2.1 u2.1.2.2.1) then
 if 0 ≤ u2.1.2.2.2.1 then
  ((u2.1.1)[(u2.1.2.2.2.1).toNat]?).bind fun y4 =>
  (F_al_1 (y4, u2.1.2.1.1, ())).bind fun r5 =>
  if r5.1.1 then
  some (.inr (.inl ((u2.1.2.2.2.1, ()), ((), ()))))
  else
  let v6 := (IntKind.i64.wrap (u2.1.2.2.2.1 + (1 : Int)))
  rec ((u2.1.1, ((u2.1.2.1.1, ()), (u2.1.2.2.1, (v6, ())))), ((), ()))
 else none
 else
 some (.inl ((), ((), ())))
def L_an_2 (x : i_an_2.den) : Option (denO o_an_2) := iterF l_an_2 lots x
def F_am_1 (x : denP P_am_1) : Option (denV R_am_1 × denQ P_am_1) :=
 let v1 := ((x.1.length : Nat) : Int)
 (L_an_2 ((x.1, ((x.2.1.1, ()), (v1, ((0 : Int), ())))), ((), ()))).bind fun z7 =>
 match z7 with
 | .inl x8 =>
 some (((-1 : Int), ()), ())
 | .inr z7_ =>
 match z7_ with
 | .inl x9 =>
  some ((x9.1.1, ()), ())
 | .inr z7__ =>
  none
abbrev C_am_1 : Con := ⟨P_am_1, R_am_1, F_am_1, false⟩
abbrev G_am_1 : Env := [(138, C_al_1)]
theorem g_am_1 : EnvOk Tryz.prog G_am_1 := (env_cons s_al_1 env_nil)
abbrev c_an_2 : Cut := ⟨i_an_2, o_an_2, fun x => iterF l_an_2 lots x⟩
theorem t_an_2 (rec x) : run T G_am_1 [] (nav Tryz.f214 [1, 0, 1, 0, 0]) (mk 19 i_an_2 x) (loopK i_an_2 o_an_2 rec) = l_an_2 rec x := by kernel_rfl
theorem k_an_2 : CutOk Tryz.prog 19 (.loop (nav Tryz.f214 [1, 0, 1, 0, 0])) c_an_2 :=
 loop_cut (L := []) hT g_am_1 t_an_2 (plain_ok (by kernel_rfl)) _
theorem r_am_1 (x) : runFn T G_am_1 [(2, c_an_2)] Tryz.f214 P_am_1 R_am_1 x = F_am_1 x := by kernel_rfl
theorem s_am_1 : CallsOk Tryz.prog 214 C_am_1 :=
 fn_calls (L := [(2, c_an_2)]) hT g_am_1 Tryz.f214 (by kernel_rfl) (by kernel_rfl) (by kernel_rfl) (seq_ok (plain_ok (by kernel_rfl)) (seq_ok (seq_ok (plain_ok (by kernel_rfl)) (block_ok (by kernel_rfl) (loop_ok (by kernel_rfl) k_an_2))) (plain_ok (by kernel_rfl)))) r_am_1
/-! slices.ContainsFunc[impl.Page,impl.Page] -/
abbrev P_ao_1 : List PK := [.val Y27, .fn 138 [YI]]
abbrev R_ao_1 : List VK := [.s (.dat .bool)]
def F_ao_1 (x : denP P_ao_1) : Option (denV R_ao_1 × denQ P_ao_1) :=
 (F_am_1 (x.1, (x.2.1.1, ()), ())).bind fun r1 =>
 some (((leI (0 : Int) r1.1.1), ()), ())
abbrev C_ao_1 : Con := ⟨P_ao_1, R_ao_1, F_ao_1, false⟩
abbrev G_ao_1 : Env := [(214, C_am_1)]
theorem g_ao_1 : EnvOk Tryz.prog G_ao_1 := (env_cons s_am_1 env_nil)
theorem r_ao_1 (x) : runFn T G_ao_1 [] Tryz.f137 P_ao_1 R_ao_1 x = F_ao_1 x := by kernel_rfl
theorem s_ao_1 : CallsOk Tryz.prog 137 C_ao_1 :=
 fn_calls (L := []) hT g_ao_1 Tryz.f137 (by kernel_rfl) (by kernel_rfl) (by kernel_rfl) (plain_ok (by kernel_rfl)) r_ao_1
/-! impl.stepFault -/
abbrev P_al : List PK := [.val Y25, .val Y27, .val Y24]
abbrev R_al : List VK := [.s (.dat YI)]
def F_al (x : denP P_al) : Option (denV R_al × denQ P_al) :=
 (F_ah (x.1, ())).bind fun r1 =>
 (F_ai (x.2.1, (24 : Int), ())).bind fun r2 =>
 (F_aj ([r1.1.1, r2.1.1], ())).bind fun r3 =>
 if (r3.1.1 != (0 : Int)) then
 some ((r3.1.1, ()), ())
 else
 let v4 := ((x.2.2.1.length : Nat) : Int)
 let v5 := (IntKind.i64.wrap ((v4).tdiv (8 : Int)))
 (F_ak (x.2.2.1, ())).bind fun r6 =>
 if (r6.1.1 != (0 : Int)) = false then
  (F_ao_1 (x.2.1, (v5, ()), ())).bind fun r7 =>
  if r7.1.1 then
  some (((1 : Int), ()), ())
  else
  some (((0 : Int), ()), ())
 else
  some (((1 : Int), ()), ())
abbrev C_al : Con := ⟨P_al, R_al, F_al, false⟩
abbrev G_al : Env := [(20, C_ah), (21, C_ak), (87, C_aj), (136, C_ai), (137, C_ao_1)]
theorem g_al : EnvOk Tryz.prog G_al := (env_cons s_ah (env_cons s_ak (env_cons s_aj (env_cons s_ai (env_cons s_ao_1 env_nil)))))
theorem r_al (x) : runFn T G_al [] Tryz.f55 P_al R_al x = F_al x := by kernel_rfl
theorem s_al : CallsOk Tryz.prog 55 C_al :=
 fn_calls (L := []) hT g_al Tryz.f55 (by kernel_rfl) (by kernel_rfl) (by kernel_rfl) (plain_ok (by kernel_rfl)) r_al
/-! impl.kindCode -/
abbrev P_bc : List PK := [.val YI]
abbrev R_bc : List VK := [.s (.dat YI)]
def F_bc (x : denP P_bc) : Option (denV R_bc × denQ P_bc) :=
 if (x.1 == (1 : Int)) then
 some (((7 : Int), ()), ())
 else
 if (x.1 == (2 : Int)) then
  some (((8 : Int), ()), ())
 else
  if (x.1 == (4 : Int)) then
  some (((9 : Int), ()), ())
  else
  some (((0 : Int), ()), ())
abbrev C_bc : Con := ⟨P_bc, R_bc, F_bc, false⟩
abbrev G_bc : Env := []
theorem g_bc : EnvOk Tryz.prog G_bc := env_nil
theorem r_bc (x) : runFn T G_bc [] Tryz.f68 P_bc R_bc x = F_bc x := by kernel_rfl
theorem s_bc : CallsOk Tryz.prog 68 C_bc :=
 fn_calls (L := []) hT g_bc Tryz.f68 (by kernel_rfl) (by kernel_rfl) (by kernel_rfl) (plain_ok (by kernel_rfl)) r_bc
/-! slices.Clone[int64,int64] -/
abbrev P_ap : List PK := [.val Y24]
abbrev R_ap : List VK := [.s (.own 2 YI)]
def F_ap (x : denP P_ap) : Option (denV R_ap × denQ P_ap) :=
 if (([] : List (den YI)).length + x.1.length) * 8 ≤ 140737488355328 then some (([] ++ x.1, ()), ()) else none
abbrev C_ap : Con := ⟨P_ap, R_ap, F_ap, false⟩
theorem s_ap : CallsOk Tryz.prog 139 C_ap :=
 nil_first hT (fn := Tryz.f139) (cn := C_ap) (c0 := nav Tryz.f139 [0]) (ca := nav Tryz.f139 [1, 0, 1, 0]) (cb := nav Tryz.f139 [1, 1]) (id := 1) (d := 4) (nm := 1032000) (o1 := navOp Tryz.f139 [1, 0, 0] 0) (o2 := navOp Tryz.f139 [1, 0, 0] 1)
  (t := 24) (t' := 24) (x := .tmp 3) (r := ⟨Y24, [], 2, 24, 0⟩) (u := YI) (by kernel_rfl) (by kernel_rfl) (by kernel_rfl) ⟨by kernel_rfl, by kernel_rfl⟩ (fun y => by kernel_rfl) (by kernel_rfl) (by kernel_rfl) (by kernel_rfl) (by kernel_rfl) (by kernel_rfl) rfl
  (fun y => (st0 Tryz.f139 P_ap y).set 2 (.s .nls)) (fun y => ((st0 Tryz.f139 P_ap y).set 2 (.s .nls)).set 3 (.s (.d (.slice YI) y.1))) (fun y => y.1)
  (fun y => by kernel_rfl) (fun y => by kernel_rfl) (fun y => by kernel_rfl) (fun y => Nat.le_of_ble_eq_true (by kernel_rfl)) (fun y => by kernel_rfl) (by kernel_rfl) (by kernel_rfl) (by kernel_rfl) (fun y => by kernel_rfl)
  (fun y h => by obtain ⟨l, v⟩ := y; have h : l = [] := h; subst h; show run _ _ _ _ _ _ = F_ap ([], v); kernel_rfl) (fun y => by kernel_rfl)
/-! impl.pageOf -/
abbrev P_aw : List PK := [.val Y24, .val YI]
abbrev R_aw : List VK := [.s (.own 2 YI)]
def F_aw (x : denP P_aw) : Option (denV R_aw × denQ P_aw) :=
 let v1 := (IntKind.i64.wrap (x.2.1 * (8 : Int)))
 let v2 := (IntKind.i64.wrap (x.2.1 + (1 : Int)))
 let v3 := (IntKind.i64.wrap (v2 * (8 : Int)))
 if 0 ≤ v1 ∧ v1 ≤ v3 ∧ v3 ≤ ((x.1.length : Nat) : Int) then
 let v4 := ((x.1.drop (v1).toNat).take ((v3).toNat - (v1).toNat))
 (F_ap (v4, ())).bind fun r5 =>
 some ((r5.1.1, ()), ())
 else none
abbrev C_aw : Con := ⟨P_aw, R_aw, F_aw, false⟩
abbrev G_aw : Env := [(139, C_ap)]
theorem g_aw : EnvOk Tryz.prog G_aw := (env_cons s_ap env_nil)
theorem r_aw (x) : runFn T G_aw [] Tryz.f80 P_aw R_aw x = F_aw x := by kernel_rfl
theorem s_aw : CallsOk Tryz.prog 80 C_aw :=
 fn_calls (L := []) hT g_aw Tryz.f80 (by kernel_rfl) (by kernel_rfl) (by kernel_rfl) (plain_ok (by kernel_rfl)) r_aw
/-! impl.nowhere -/
abbrev P_ax : List PK := []
abbrev R_ax : List VK := [.s (.dat Y40)]
def F_ax (x : denP P_ax) : Option (denV R_ax × denQ P_ax) :=
 some ((((-1 : Int), ((0 : Int), ())), ()), ())
abbrev C_ax : Con := ⟨P_ax, R_ax, F_ax, false⟩
abbrev G_ax : Env := []
theorem g_ax : EnvOk Tryz.prog G_ax := env_nil
theorem r_ax (x) : runFn T G_ax [] Tryz.f174 P_ax R_ax x = F_ax x := by kernel_rfl
theorem s_ax : CallsOk Tryz.prog 174 C_ax :=
 fn_calls (L := []) hT g_ax Tryz.f174 (by kernel_rfl) (by kernel_rfl) (by kernel_rfl) (plain_ok (by kernel_rfl)) r_ax
/-! impl.entryOf -/
abbrev P_ay : List PK := [.val YI]
abbrev R_ay : List VK := [.s (.dat Y40)]
def F_ay (x : denP P_ay) : Option (denV R_ay × denQ P_ay) :=
 let v1 := (IntKind.i64.wrap ((x.1).tdiv (8 : Int)))
 let v2 := ((x.1).tmod (8 : Int))
 if (v2 == (0 : Int)) = false then
 if (leI (8 : Int) v1) then
  (F_ax ()).bind fun r3 =>
  some ((r3.1.1, ()), ())
 else
  some (((v1, (v2, ())), ()), ())
 else
 (F_ax ()).bind fun r4 =>
 some ((r4.1.1, ()), ())
abbrev C_ay : Con := ⟨P_ay, R_ay, F_ay, false⟩
abbrev G_ay : Env := [(174, C_ax)]
theorem g_ay : EnvOk Tryz.prog G_ay := (env_cons s_ax env_nil)
theorem r_ay (x) : runFn T G_ay [] Tryz.f281 P_ay R_ay x = F_ay x := by kernel_rfl
theorem s_ay : CallsOk Tryz.prog 281 C_ay :=
 fn_calls (L := []) hT g_ay Tryz.f281 (by kernel_rfl) (by kernel_rfl) (by kernel_rfl) (plain_ok (by kernel_rfl)) r_ay
/-! impl.PagesFrom -/
abbrev P_az : List PK := [.val Y24]
abbrev R_az : List VK := [.g [.dat YI, .own 41 Y40]]
abbrev i_az_7 : Shp := { slots := [(2, .s (.ptr 2 0)), (3, .s (.own 41 Y40)), (15, .s (.dat Y24)), (16, .s (.dat YI)), (17, .s (.dat YI))], boxes := [(2, [.dat YI, .own 41 Y40])], rows := [] }
abbrev o_az_7 : List (Ex × Shp) := [(.exit 0, { slots := [(2, .s (.ptr 2 0)), (3, .s (.own 41 Y40))], boxes := [(2, [.dat YI, .own 41 Y40])], rows := [] })]
def l_az_7 (rec : i_az_7.den → Option (denO o_az_7)) (u7 : i_az_7.den) : Option (denO o_az_7) :=
 if (ltI u7.1.2.2.2.2.1 u7.1.2.2.2.1) then
 if 0 ≤ u7.1.2.2.2.2.1 then
  ((u7.1.2.2.1)[(u7.1.2.2.2.2.1).toNat]?).bind fun y6 =>
  (F_ay (y6, ())).bind fun r7 =>
  if (u7.1.2.1.length + [r7.1.1].length) * 16 ≤ 140737488355328 then
  let v8 := (u7.1.2.1 ++ [r7.1.1])
  let v9 := (IntKind.i64.wrap (u7.1.2.2.2.2.1 + (1 : Int)))
  rec (((), (v8, (u7.1.2.2.1, (u7.1.2.2.2.1, (v9, ()))))), ((u7.2.1.1, ()), ()))
  else none
 else none
 else
 some (.inl (((), (u7.1.2.1, ())), ((u7.2.1.1, ()), ())))
def L_az_7 (x : i_az_7.den) : Option (denO o_az_7) := iterF l_az_7 lots x
def F_az (x : denP P_az) : Option (denV R_az × denQ P_az) :=
 let v1 := ((x.1.length : Nat) : Int)
 if (v1 != (8 : Int)) then
 some ((((1 : Int), (([] : List (den Y40)), ())), ()), ())
 else
 (F_ad (x.1, ())).bind fun r2 =>
 if (!r2.1.1) then
  some ((((3 : Int), (([] : List (den Y40)), ())), ()), ())
 else
  let v3 := ((x.1.length : Nat) : Int)
  (L_az_7 (((), (([] : List (den Y40)), (x.1, (v3, ((0 : Int), ()))))), ((((0 : Int), (([] : List (den Y40)), ())), ()), ()))).bind fun z10 =>
  match z10 with
  | .inl x11 =>
  some ((((0 : Int), (x11.1.2.1, ())), ()), ())
  | .inr z10_ =>
  none
abbrev C_az : Con := ⟨P_az, R_az, F_az, false⟩
abbrev G_az : Env := [(62, C_ad), (281, C_ay)]
theorem g_az : EnvOk Tryz.prog G_az := (env_cons s_ad (env_cons s_ay env_nil))
abbrev c_az_7 : Cut := ⟨i_az_7, o_az_7, fun x => iterF l_az_7 lots x⟩
theorem t_az_7 (rec x) : run T G_az [] (nav Tryz.f232 [1, 1, 1, 1, 0, 1, 0, 0]) (mk 29 i_az_7 x) (loopK i_az_7 o_az_7 rec) = l_az_7 rec x := by kernel_rfl
theorem k_az_7 : CutOk Tryz.prog 29 (.loop (nav Tryz.f232 [1, 1, 1, 1, 0, 1, 0, 0])) c_az_7 :=
 loop_cut (L := []) hT g_az t_az_7 (plain_ok (by kernel_rfl)) _
theorem r_az (x) : runFn T G_az [(7, c_az_7)] Tryz.f232 P_az R_az x = F_az x := by kernel_rfl
theorem s_az : CallsOk Tryz.prog 232 C_az :=
 fn_calls (L := [(7, c_az_7)]) hT g_az Tryz.f232 (by kernel_rfl) (by kernel_rfl) (by kernel_rfl) (seq_ok (plain_ok (by kernel_rfl)) (seq_ok (plain_ok (by kernel_rfl)) (seq_ok (plain_ok (by kernel_rfl)) (seq_ok (plain_ok (by kernel_rfl)) (seq_ok (seq_ok (plain_ok (by kernel_rfl)) (block_ok (by kernel_rfl) (loop_ok (by kernel_rfl) k_az_7))) (plain_ok (by kernel_rfl))))))) r_az
/-! (*impl.Hart).space -/
abbrev P_ba : List PK := [.ptr Y25, .val Y27, .val Y24]
abbrev R_ba : List VK := [.g [.dat YI, .own 41 Y40]]
abbrev i_ba_5 : Shp := { slots := [(6, .s (.ptr 6 0)), (8, .s (.own 41 Y40)), (20, .s (.dat YI))], boxes := [(6, [.dat YI, .own 41 Y40])], rows := [] }
abbrev o_ba_5 : List (Ex × Shp) := [(.exit 0, { slots := [(6, .s (.ptr 6 0)), (8, .s (.own 41 Y40))], boxes := [(6, [.dat YI, .own 41 Y40])], rows := [] })]
def l_ba_5 (rec : i_ba_5.den → Option (denO o_ba_5)) (u5 : i_ba_5.den) : Option (denO o_ba_5) :=
 if (ltI u5.1.2.2.1 (8 : Int)) then
 if (u5.1.2.1.length + [(u5.1.2.2.1, ((7 : Int), ()))].length) * 16 ≤ 140737488355328 then
  let v3 := (u5.1.2.1 ++ [(u5.1.2.2.1, ((7 : Int), ()))])
  let v4 := (IntKind.i64.wrap (u5.1.2.2.1 + (1 : Int)))
  rec (((), (v3, (v4, ()))), ((u5.2.1.1, ()), ()))
 else none
 else
 some (.inl (((), (u5.1.2.1, ())), ((u5.2.1.1, ()), ())))
def L_ba_5 (x : i_ba_5.den) : Option (denO o_ba_5) := iterF l_ba_5 lots x
def F_ba (x : denP P_ba) : Option (denV R_ba × denQ P_ba) :=
 ((x.1.2.2.1)[((10 : Int)).toNat]?).bind fun y1 =>
 let v2 := (IntKind.i64.wrap (y1 - (1 : Int)))
 if (ltI v2 (0 : Int)) then
 (L_ba_5 (((), (([] : List (den Y40)), ((0 : Int), ()))), ((((0 : Int), (([] : List (den Y40)), ())), ()), ()))).bind fun z5 =>
 match z5 with
 | .inl x6 =>
  some ((((0 : Int), (x6.1.2.1, ())), ()), ())
 | .inr z5_ =>
  none
 else
 if 0 ≤ v2 then
  ((x.2.1)[(v2).toNat]?).bind fun y7 =>
  if (ltI y7.1 (0 : Int)) = false then
  if 0 ≤ v2 then
   ((x.2.1)[(v2).toNat]?).bind fun y8 =>
   let v9 := (iand .i64 y8.2.1 (1 : Int))
   if (v9 == (0 : Int)) = false then
   if (v2 == (7 : Int)) then
    some ((((7 : Int), (([] : List (den Y40)), ())), ()), ())
   else
    if 0 ≤ v2 then
    ((x.2.1)[(v2).toNat]?).bind fun y10 =>
    (F_aw (x.2.2.1, y10.1, ())).bind fun r11 =>
    (F_az (r11.1.1, ())).bind fun r12 =>
    some ((r12.1.1, ()), ())
    else none
   else
   some ((((7 : Int), (([] : List (den Y40)), ())), ()), ())
  else none
  else
  some ((((7 : Int), (([] : List (den Y40)), ())), ()), ())
 else none
abbrev C_ba : Con := ⟨P_ba, R_ba, F_ba, false⟩
abbrev G_ba : Env := [(80, C_aw), (232, C_az)]
theorem g_ba : EnvOk Tryz.prog G_ba := (env_cons s_aw (env_cons s_az env_nil))
abbrev c_ba_5 : Cut := ⟨i_ba_5, o_ba_5, fun x => iterF l_ba_5 lots x⟩
theorem t_ba_5 (rec x) : run T G_ba [] (nav Tryz.f160 [1, 1, 0, 1, 0, 1, 0, 1, 0, 0]) (mk 59 i_ba_5 x) (loopK i_ba_5 o_ba_5 rec) = l_ba_5 rec x := by kernel_rfl
theorem k_ba_5 : CutOk Tryz.prog 59 (.loop (nav Tryz.f160 [1, 1, 0, 1, 0, 1, 0, 1, 0, 0])) c_ba_5 :=
 loop_cut (L := []) hT g_ba t_ba_5 (plain_ok (by kernel_rfl)) _
theorem r_ba (x) : runFn T G_ba [(5, c_ba_5)] Tryz.f160 P_ba R_ba x = F_ba x := by kernel_rfl
theorem s_ba : CallsOk Tryz.prog 160 C_ba :=
 fn_calls (L := [(5, c_ba_5)]) hT g_ba Tryz.f160 (by kernel_rfl) (by kernel_rfl) (by kernel_rfl) (seq_ok (plain_ok (by kernel_rfl)) (seq_ok (plain_ok (by kernel_rfl)) (seq_ok (seq_ok (plain_ok (by kernel_rfl)) (cond_ok (seq_ok (plain_ok (by kernel_rfl)) (seq_ok (seq_ok (plain_ok (by kernel_rfl)) (block_ok (by kernel_rfl) (loop_ok (by kernel_rfl) k_ba_5))) (plain_ok (by kernel_rfl)))) (plain_ok (by kernel_rfl)))) (plain_ok (by kernel_rfl))))) r_ba
/-! impl.hasPage -/
abbrev P_bb : List PK := [.val YI]
abbrev R_bb : List VK := [.s (.dat .bool)]
def F_bb (x : denP P_bb) : Option (denV R_bb × denQ P_bb) :=
 (F_ab (x.1, (0 : Int), (63 : Int), ())).bind fun r1 =>
 some ((r1.1.1, ()), ())
abbrev C_bb : Con := ⟨P_bb, R_bb, F_bb, false⟩
abbrev G_bb : Env := [(56, C_ab)]
theorem g_bb : EnvOk Tryz.prog G_bb := (env_cons s_ab env_nil)
theorem r_bb (x) : runFn T G_bb [] Tryz.f233 P_bb R_bb x = F_bb x := by kernel_rfl
theorem s_bb : CallsOk Tryz.prog 233 C_bb :=
 fn_calls (L := []) hT g_bb Tryz.f233 (by kernel_rfl) (by kernel_rfl) (by kernel_rfl) (plain_ok (by kernel_rfl)) r_bb
/-! impl.walk -/
abbrev P_bd : List PK := [.val Y27, .val YI, .val YI]
abbrev R_bd : List VK := [.s (.dat Y40)]
def F_bd (x : denP P_bd) : Option (denV R_bd × denQ P_bd) :=
 (F_bb (x.2.1, ())).bind fun r1 =>
 if (!r1.1.1) = false then
 let v2 := (IntKind.i64.wrap ((x.2.1).tdiv (8 : Int)))
 if 0 ≤ v2 then
  ((x.1)[(v2).toNat]?).bind fun y3 =>
  if (ltI y3.1 (0 : Int)) = false then
  let v4 := (IntKind.i64.wrap ((x.2.1).tdiv (8 : Int)))
  if 0 ≤ v4 then
   ((x.1)[(v4).toNat]?).bind fun y5 =>
   let v6 := (iand .i64 y5.2.1 x.2.2.1)
   if (v6 == (0 : Int)) then
   (F_bc (x.2.2.1, ())).bind fun r7 =>
   some (((r7.1.1, ((0 : Int), ())), ()), ())
   else
   let v8 := (IntKind.i64.wrap ((x.2.1).tdiv (8 : Int)))
   if 0 ≤ v8 then
    ((x.1)[(v8).toNat]?).bind fun y9 =>
    let v10 := (IntKind.i64.wrap (y9.1 * (8 : Int)))
    let v11 := ((x.2.1).tmod (8 : Int))
    let v12 := (IntKind.i64.wrap (v10 + v11))
    some ((((0 : Int), (v12, ())), ()), ())
   else none
  else none
  else
  (F_bc (x.2.2.1, ())).bind fun r13 =>
  some (((r13.1.1, ((0 : Int), ())), ()), ())
 else none
 else
 (F_bc (x.2.2.1, ())).bind fun r14 =>
 some (((r14.1.1, ((0 : Int), ())), ()), ())
abbrev C_bd : Con := ⟨P_bd, R_bd, F_bd, false⟩
abbrev G_bd : Env := [(68, C_bc), (233, C_bb)]
theorem g_bd : EnvOk Tryz.prog G_bd := (env_cons s_bc (env_cons s_bb env_nil))
theorem r_bd (x) : runFn T G_bd [] Tryz.f161 P_bd R_bd x = F_bd x := by kernel_rfl
theorem s_bd : CallsOk Tryz.prog 161 C_bd :=
 fn_calls (L := []) hT g_bd Tryz.f161 (by kernel_rfl) (by kernel_rfl) (by kernel_rfl) (plain_ok (by kernel_rfl)) r_bd
/-! (*impl.Hart).place -/
abbrev P_be : List PK := [.ptr Y25, .val Y27, .val Y24, .val YI, .val YI]
abbrev R_be : List VK := [.s (.dat Y40)]
def F_be (x : denP P_be) : Option (denV R_be × denQ P_be) :=
 (F_ba (x.1, x.2.1, x.2.2.1, ())).bind fun r1 =>
 if (r1.1.1.1 != (0 : Int)) then
 some (((r1.1.1.1, ((0 : Int), ())), ()), ())
 else
 (F_bd (r1.1.1.2.1, x.2.2.2.1, x.2.2.2.2.1, ())).bind fun r2 =>
 if (r2.1.1.1 != (0 : Int)) then
  some ((r2.1.1, ()), ())
 else
  let v3 := (IntKind.i64.wrap ((r2.1.1.2.1).tdiv (8 : Int)))
  if (v3 != (7 : Int)) then
  (F_bd (x.2.1, r2.1.1.2.1, x.2.2.2.2.1, ())).bind fun r4 =>
  some ((r4.1.1, ()), ())
  else
  if (x.2.2.2.2.1 == (4 : Int)) then
   some ((((9 : Int), ((0 : Int), ())), ()), ())
  else
   let v5 := ((r2.1.1.2.1).tmod (8 : Int))
   let v6 := (IntKind.i64.wrap ((1000 : Int) + v5))
   some ((((0 : Int), (v6, ())), ()), ())
abbrev C_be : Con := ⟨P_be, R_be, F_be, false⟩
abbrev G_be : Env := [(160, C_ba), (161, C_bd)]
theorem g_be : EnvOk Tryz.prog G_be := (env_cons s_ba (env_cons s_bd env_nil))
theorem r_be (x) : runFn T G_be [] Tryz.f69 P_be R_be x = F_be x := by kernel_rfl
theorem s_be : CallsOk Tryz.prog 69 C_be :=
 fn_calls (L := []) hT g_be Tryz.f69 (by kernel_rfl) (by kernel_rfl) (by kernel_rfl) (plain_ok (by kernel_rfl)) r_be
/-! impl.PlaceOf -/
abbrev P_ds : List PK := [.val Y25, .val Y27, .val Y24, .val YI, .val YI]
abbrev R_ds : List VK := [.s (.dat Y40)]
def F_ds (x : denP P_ds) : Option (denV R_ds × denQ P_ds) :=
 (F_al (x.1, x.2.1, x.2.2.1, ())).bind fun r1 =>
 if (r1.1.1 == (0 : Int)) = true then
 (F_bc (x.2.2.2.2.1, ())).bind fun r2 =>
 if (r2.1.1 == (0 : Int)) then
  some ((((3 : Int), ((0 : Int), ())), ()), ())
 else
  if (r1.1.1 != (0 : Int)) then
  some (((r1.1.1, ((0 : Int), ())), ()), ())
  else
  (F_be (x.1, x.2.1, x.2.2.1, x.2.2.2.1, x.2.2.2.2.1, ())).bind fun r3 =>
  some ((r3.1.1, ()), ())
 else
 if (r1.1.1 != (0 : Int)) then
  some (((r1.1.1, ((0 : Int), ())), ()), ())
 else
  (F_be (x.1, x.2.1, x.2.2.1, x.2.2.2.1, x.2.2.2.2.1, ())).bind fun r4 =>
  some ((r4.1.1, ()), ())
abbrev C_ds : Con := ⟨P_ds, R_ds, F_ds, false⟩
abbrev G_ds : Env := [(55, C_al), (68, C_bc), (69, C_be)]
theorem g_ds : EnvOk Tryz.prog G_ds := (env_cons s_al (env_cons s_bc (env_cons s_be env_nil)))
theorem r_ds (x) : runFn T G_ds [] Tryz.f26 P_ds R_ds x = F_ds x := by kernel_rfl
theorem s_ds : CallsOk Tryz.prog 26 C_ds :=
 fn_calls (L := []) hT g_ds Tryz.f26 (by kernel_rfl) (by kernel_rfl) (by kernel_rfl) (plain_ok (by kernel_rfl)) r_ds
/-! impl.InsFault -/
abbrev P_bf : List PK := [.val Y42]
abbrev R_bf : List VK := [.s (.dat YI)]
def F_bf (x : denP P_bf) : Option (denV R_bf × denQ P_bf) :=
 (F_ab (x.1.1, (1 : Int), (26 : Int), ())).bind fun r1 =>
 if (!r1.1.1) = false then
 (F_ab (x.1.2.1, (0 : Int), (15 : Int), ())).bind fun r2 =>
 if (!r2.1.1) = false then
  (F_ab (x.1.2.2.1, (0 : Int), (15 : Int), ())).bind fun r3 =>
  if (!r3.1.1) = false then
  (F_ab (x.1.2.2.2.1, (0 : Int), (65535 : Int), ())).bind fun r4 =>
  if (!r4.1.1) then
   some (((3 : Int), ()), ())
  else
   if (leI x.1.1 (11 : Int)) then
   if (ltI (15 : Int) x.1.2.2.2.1) then
    some (((1 : Int), ()), ())
   else
    some (((0 : Int), ()), ())
   else
   if (x.1.1 == (13 : Int)) then
    if (x.1.2.2.1 != (0 : Int)) then
    some (((1 : Int), ()), ())
    else
    some (((0 : Int), ()), ())
   else
    if (x.1.1 == (19 : Int)) then
    if (x.1.2.2.1 != (0 : Int)) then
     some (((1 : Int), ()), ())
    else
     some (((0 : Int), ()), ())
    else
    if (x.1.1 == (21 : Int)) then
     if (ltI (10 : Int) x.1.2.2.2.1) = false then
     if (x.1.2.2.1 != (0 : Int)) then
      some (((1 : Int), ()), ())
     else
      some (((0 : Int), ()), ())
     else
     some (((1 : Int), ()), ())
    else
     if (x.1.1 == (22 : Int)) then
     if (ltI (10 : Int) x.1.2.2.2.1) = false then
      if (x.1.2.1 != (0 : Int)) then
      some (((1 : Int), ()), ())
      else
      some (((0 : Int), ()), ())
     else
      some (((1 : Int), ()), ())
     else
     if (leI (23 : Int) x.1.1) then
      if (x.1.2.1 != (0 : Int)) = false then
      if (x.1.2.2.1 != (0 : Int)) = false then
       if (x.1.2.2.2.1 != (0 : Int)) then
       some (((1 : Int), ()), ())
       else
       some (((0 : Int), ()), ())
      else
       some (((1 : Int), ()), ())
      else
      some (((1 : Int), ()), ())
     else
      some (((0 : Int), ()), ())
  else
  some (((3 : Int), ()), ())
 else
  some (((3 : Int), ()), ())
 else
 some (((3 : Int), ()), ())
abbrev C_bf : Con := ⟨P_bf, R_bf, F_bf, false⟩
abbrev G_bf : Env := [(56, C_ab)]
theorem g_bf : EnvOk Tryz.prog G_bf := (env_cons s_ab env_nil)
theorem r_bf (x) : runFn T G_bf [] Tryz.f154 P_bf R_bf x = F_bf x := by kernel_rfl
theorem s_bf : CallsOk Tryz.prog 154 C_bf :=
 fn_calls (L := []) hT g_bf Tryz.f154 (by kernel_rfl) (by kernel_rfl) (by kernel_rfl) (plain_ok (by kernel_rfl)) r_bf
/-! impl.DecodeIns -/
abbrev P_bg : List PK := [.val YI]
abbrev R_bg : List VK := [.s (.dat Y44)]
def F_bg (x : denP P_bg) : Option (denV R_bg × denQ P_bg) :=
 let v1 := ((x.1).fdiv (2 ^ 24))
 let v2 := ((x.1).fdiv (2 ^ 20))
 let v3 := (iand .i64 v2 (15 : Int))
 let v4 := ((x.1).fdiv (2 ^ 16))
 let v5 := (iand .i64 v4 (15 : Int))
 let v6 := (iand .i64 x.1 (65535 : Int))
 (F_bf ((v1, (v3, (v5, (v6, ())))), ())).bind fun r7 =>
 if (r7.1.1 != (0 : Int)) then
 some ((((5 : Int), (((0 : Int), ((0 : Int), ((0 : Int), ((0 : Int), ())))), ())), ()), ())
 else
 some ((((0 : Int), ((v1, (v3, (v5, (v6, ())))), ())), ()), ())
abbrev C_bg : Con := ⟨P_bg, R_bg, F_bg, false⟩
abbrev G_bg : Env := [(154, C_bf)]
theorem g_bg : EnvOk Tryz.prog G_bg := (env_cons s_bf env_nil)
theorem r_bg (x) : runFn T G_bg [] Tryz.f64 P_bg R_bg x = F_bg x := by kernel_rfl
theorem s_bg : CallsOk Tryz.prog 64 C_bg :=
 fn_calls (L := []) hT g_bg Tryz.f64 (by kernel_rfl) (by kernel_rfl) (by kernel_rfl) (plain_ok (by kernel_rfl)) r_bg
/-! impl.NextIns -/
abbrev P_dt : List PK := [.val Y25, .val Y27, .val Y24]
abbrev R_dt : List VK := [.s (.dat Y44)]
def F_dt (x : denP P_dt) : Option (denV R_dt × denQ P_dt) :=
 (F_ds (x.1, x.2.1, x.2.2.1, x.1.2.1, (4 : Int), ())).bind fun r1 =>
 if (r1.1.1.1 != (0 : Int)) then
 some (((r1.1.1.1, (((0 : Int), ((0 : Int), ((0 : Int), ((0 : Int), ())))), ())), ()), ())
 else
 if 0 ≤ r1.1.1.2.1 then
  ((x.2.2.1)[(r1.1.1.2.1).toNat]?).bind fun y2 =>
  (F_bg (y2, ())).bind fun r3 =>
  some ((r3.1.1, ()), ())
 else none
abbrev C_dt : Con := ⟨P_dt, R_dt, F_dt, false⟩
abbrev G_dt : Env := [(26, C_ds), (64, C_bg)]
theorem g_dt : EnvOk Tryz.prog G_dt := (env_cons s_ds (env_cons s_bg env_nil))
theorem r_dt (x) : runFn T G_dt [] Tryz.f23 P_dt R_dt x = F_dt x := by kernel_rfl
theorem s_dt : CallsOk Tryz.prog 23 C_dt :=
 fn_calls (L := []) hT g_dt Tryz.f23 (by kernel_rfl) (by kernel_rfl) (by kernel_rfl) (plain_ok (by kernel_rfl)) r_dt
/-! (impl.Hart).own -/
abbrev P_aq : List PK := [.val Y25]
abbrev R_aq : List VK := [.g [.own 2 YI, .dat YI, .own 2 YI, .dat .bool, .dat .bool, .dat .bool, .dat YI, .own 2 YI, .own 2 YI]]
def F_aq (x : denP P_aq) : Option (denV R_aq × denQ P_aq) :=
 (F_ap (x.1.1, ())).bind fun r1 =>
 (F_ap (x.1.2.2.1, ())).bind fun r2 =>
 (F_ap (x.1.2.2.2.2.2.2.2.1, ())).bind fun r3 =>
 (F_ap (x.1.2.2.2.2.2.2.2.2.1, ())).bind fun r4 =>
 some (((r1.1.1, (x.1.2.1, (r2.1.1, (x.1.2.2.2.1, (x.1.2.2.2.2.1, (x.1.2.2.2.2.2.1, (x.1.2.2.2.2.2.2.1, (r3.1.1, (r4.1.1, ()))))))))), ()), ())
abbrev C_aq : Con := ⟨P_aq, R_aq, F_aq, false⟩
abbrev G_aq : Env := [(139, C_ap)]
theorem g_aq : EnvOk Tryz.prog G_aq := (env_cons s_ap env_nil)
theorem r_aq (x) : runFn T G_aq [] Tryz.f83 P_aq R_aq x = F_aq x := by kernel_rfl
theorem s_aq : CallsOk Tryz.prog 83 C_aq :=
 fn_calls (L := []) hT g_aq Tryz.f83 (by kernel_rfl) (by kernel_rfl) (by kernel_rfl) (plain_ok (by kernel_rfl)) r_aq
end Go.Proofs.YtajnommlfjfgpaaGreatDoor
