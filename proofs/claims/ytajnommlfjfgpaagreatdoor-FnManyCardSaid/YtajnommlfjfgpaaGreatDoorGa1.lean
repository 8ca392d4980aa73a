/- The functions of the laws, each as a plain function of data (F), and that the program's text does what F says. Printed by a program (wip/tools/gen.py). -/
import Derived.Test.YtajnommlfjfgpaaGreatDoorGt
namespace Go.Proofs.YtajnommlfjfgpaaGreatDoor
open Go Go.RowKit S Go.Proofs
set_option maxRecDepth 100000
set_option linter.unusedVariables false
/-! laws.lwBig -/
abbrev P_laws_lwBig : List PK := [.val Y22]
abbrev R_laws_lwBig : List VK := [.s (.dat .bool)]
def F_laws_lwBig (x : denP P_laws_lwBig) : Option (denV R_laws_lwBig × denQ P_laws_lwBig) :=
  let v1 := ((x.1.length : Nat) : Int)
  some (((ltI (1048576 : Int) v1), ()), ())
abbrev C_laws_lwBig : Con := ⟨P_laws_lwBig, R_laws_lwBig, F_laws_lwBig, false⟩
abbrev G_laws_lwBig : Env := []
theorem g_laws_lwBig : EnvOk Tryz.prog G_laws_lwBig := env_nil
theorem r_laws_lwBig (x) : runFn T G_laws_lwBig [] Tryz.f11 P_laws_lwBig R_laws_lwBig x = F_laws_lwBig x := by kernel_rfl
theorem s_laws_lwBig : CallsOk Tryz.prog 11 C_laws_lwBig :=
  fn_calls (L := []) hT g_laws_lwBig Tryz.f11 (by kernel_rfl) (by kernel_rfl) (by kernel_rfl) (plain_ok (by kernel_rfl)) r_laws_lwBig
/-! spec.l1Source -/
abbrev P_spec_l1Source : List PK := [.val Y22]
abbrev R_spec_l1Source : List VK := [.s (.bx Y190)]
def F_spec_l1Source (x : denP P_spec_l1Source) : Option (denV R_spec_l1Source × denQ P_spec_l1Source) := some (((x.1, (0 : Int), ()), ()), ())
abbrev C_spec_l1Source : Con := ⟨P_spec_l1Source, R_spec_l1Source, F_spec_l1Source, false⟩
theorem w_spec_l1Source (A : Option Addr) (n cap : Nat) (w : World) : Calls Tryz.prog 51 #[.slice A n cap] w fun e w' => e = .returned (.pointer (some ⟨w.heap.size, 0, none⟩)) ∧ w' = w.alloc (.cells #[.slice A n cap, .int .i64 0] 191) := by
  go_enter Tryz.func51, Tryz.ntmps51
  go_wp2
  go_ret
  exact ⟨rfl, rfl⟩
theorem s_spec_l1Source : CallsOk Tryz.prog 51 C_spec_l1Source := (src_sound w_spec_l1Source).ok (enter_ok Tryz.func51 (by decide +kernel) (by kernel_rfl))
/-! spec.l1Next -/
abbrev P_spec_l1Next : List PK := [.box [.dat Y22, .dat YI] [.dat Y22, .dat YI], .val YI]
abbrev R_spec_l1Next : List VK := [.s (.dat YI)]
def F_spec_l1Next (x : denP P_spec_l1Next) : Option (denV R_spec_l1Next × denQ P_spec_l1Next) :=
  let v1 := (IntKind.i64.wrap (x.1.2.1 + (1 : Int)))
  if (ltI x.2.1 (1 : Int)) then
    some (((0 : Int), ()), ((x.1.1, (v1, ())), ()))
  else
    let v2 := (IntKind.i64.wrap (v1 - (1 : Int)))
    let v3 := ((x.1.1.length : Nat) : Int)
    if (v3 == (0 : Int)) then
      let v4 := (IntKind.i64.wrap (v2 * (7 : Int)))
      if x.2.1 = 0 then none else
      let v5 := ((v4).tmod x.2.1)
      some ((v5, ()), ((x.1.1, (v1, ())), ()))
    else
      if v3 = 0 then none else
      let v6 := ((v2).tmod v3)
      if 0 ≤ v6 then
        ((x.1.1)[(v6).toNat]?).bind fun y7 =>
        let v8 := (IntKind.i64.wrap y7)
        if v3 = 0 then none else
        let v9 := (IntKind.i64.wrap ((v2).tdiv v3))
        let v10 := (IntKind.i64.wrap (v9 * (37 : Int)))
        let v11 := (IntKind.i64.wrap (v8 + v10))
        if (ltI (200 : Int) x.2.1) then
          let v12 := (IntKind.i64.wrap (v11 * (251 : Int)))
          let v13 := (IntKind.i64.wrap (v2 + (1 : Int)))
          if v3 = 0 then none else
          let v14 := ((v13).tmod v3)
          if 0 ≤ v14 then
            ((x.1.1)[(v14).toNat]?).bind fun y15 =>
            let v16 := (IntKind.i64.wrap y15)
            let v17 := (IntKind.i64.wrap (v16 * (13 : Int)))
            let v18 := (IntKind.i64.wrap (v12 + v17))
            let v19 := (IntKind.i64.wrap (v18 + v2))
            if x.2.1 = 0 then none else
            let v20 := ((v19).tmod x.2.1)
            some ((v20, ()), ((x.1.1, (v1, ())), ()))
          else none
        else
          if x.2.1 = 0 then none else
          let v21 := ((v11).tmod x.2.1)
          some ((v21, ()), ((x.1.1, (v1, ())), ()))
      else none
abbrev C_spec_l1Next : Con := ⟨P_spec_l1Next, R_spec_l1Next, F_spec_l1Next, false⟩
abbrev G_spec_l1Next : Env := []
theorem g_spec_l1Next : EnvOk Tryz.prog G_spec_l1Next := env_nil
theorem r_spec_l1Next (x) : runFn T G_spec_l1Next [] Tryz.f54 P_spec_l1Next R_spec_l1Next x = F_spec_l1Next x := by kernel_rfl
theorem s_spec_l1Next : CallsOk Tryz.prog 54 C_spec_l1Next :=
  fn_calls (L := []) hT g_spec_l1Next Tryz.f54 (by kernel_rfl) (by kernel_rfl) (by kernel_rfl) (plain_ok (by kernel_rfl)) r_spec_l1Next
/-! spec.l1In -/
abbrev P_spec_l1In : List PK := [.val YI, .val YI, .val YI]
abbrev R_spec_l1In : List VK := [.s (.dat .bool)]
def F_spec_l1In (x : denP P_spec_l1In) : Option (denV R_spec_l1In × denQ P_spec_l1In) :=
  if (leI x.2.1 x.1) = true then
    some (((leI x.1 x.2.2.1), ()), ())
  else
    some ((false, ()), ())
abbrev C_spec_l1In : Con := ⟨P_spec_l1In, R_spec_l1In, F_spec_l1In, false⟩
abbrev G_spec_l1In : Env := []
theorem g_spec_l1In : EnvOk Tryz.prog G_spec_l1In := env_nil
theorem r_spec_l1In (x) : runFn T G_spec_l1In [] Tryz.f59 P_spec_l1In R_spec_l1In x = F_spec_l1In x := by kernel_rfl
theorem s_spec_l1In : CallsOk Tryz.prog 59 C_spec_l1In :=
  fn_calls (L := []) hT g_spec_l1In Tryz.f59 (by kernel_rfl) (by kernel_rfl) (by kernel_rfl) (plain_ok (by kernel_rfl)) r_spec_l1In
/-! spec.l8Word -/
abbrev P_spec_l8Word : List PK := [.val YI]
abbrev R_spec_l8Word : List VK := [.s (.dat .bool)]
def F_spec_l8Word (x : denP P_spec_l8Word) : Option (denV R_spec_l8Word × denQ P_spec_l8Word) :=
  (F_spec_l1In (x.1, (0 : Int), (4294967295 : Int), ())).bind fun r1 =>
  some ((r1.1.1, ()), ())
abbrev C_spec_l8Word : Con := ⟨P_spec_l8Word, R_spec_l8Word, F_spec_l8Word, false⟩
abbrev G_spec_l8Word : Env := [(59, C_spec_l1In)]
theorem g_spec_l8Word : EnvOk Tryz.prog G_spec_l8Word := (env_cons s_spec_l1In env_nil)
theorem r_spec_l8Word (x) : runFn T G_spec_l8Word [] Tryz.f218 P_spec_l8Word R_spec_l8Word x = F_spec_l8Word x := by kernel_rfl
theorem s_spec_l8Word : CallsOk Tryz.prog 218 C_spec_l8Word :=
  fn_calls (L := []) hT g_spec_l8Word Tryz.f218 (by kernel_rfl) (by kernel_rfl) (by kernel_rfl) (plain_ok (by kernel_rfl)) r_spec_l8Word
/-! spec.l8All -/
abbrev P_spec_l8All : List PK := [.val Y24]
abbrev R_spec_l8All : List VK := [.s (.dat .bool)]
abbrev i_spec_l8All_2 : Shp := { slots := [(0, .s (.dat Y24)), (3, .s (.dat YI))], boxes := [], rows := [] }
abbrev o_spec_l8All_2 : List (Ex × Shp) := [(.exit 0, { slots := [], boxes := [], rows := [] }), (.ret, { slots := [(2, .s (.dat .bool))], boxes := [], rows := [] })]
def l_spec_l8All_2 (rec : i_spec_l8All_2.den → Option (denO o_spec_l8All_2)) (u2 : i_spec_l8All_2.den) : Option (denO o_spec_l8All_2) :=
  let v3 := ((u2.1.1.length : Nat) : Int)
  if (ltI u2.1.2.1 v3) then
    if 0 ≤ u2.1.2.1 then
      ((u2.1.1)[(u2.1.2.1).toNat]?).bind fun y4 =>
      (F_spec_l8Word (y4, ())).bind fun r5 =>
      if (!r5.1.1) then
        some (.inr (.inl ((false, ()), ((), ()))))
      else
        let v6 := (IntKind.i64.wrap (u2.1.2.1 + (1 : Int)))
        rec ((u2.1.1, (v6, ())), ((), ()))
    else none
  else
    some (.inl ((), ((), ())))
def L_spec_l8All_2 (x : i_spec_l8All_2.den) : Option (denO o_spec_l8All_2) := iterF l_spec_l8All_2 lots x
def F_spec_l8All (x : denP P_spec_l8All) : Option (denV R_spec_l8All × denQ P_spec_l8All) :=
  (L_spec_l8All_2 ((x.1, ((0 : Int), ())), ((), ()))).bind fun z7 =>
  match z7 with
  | .inl x8 =>
    some ((true, ()), ())
  | .inr z7_ =>
    match z7_ with
    | .inl x9 =>
      some ((x9.1.1, ()), ())
    | .inr z7__ =>
      none
abbrev C_spec_l8All : Con := ⟨P_spec_l8All, R_spec_l8All, F_spec_l8All, false⟩
abbrev G_spec_l8All : Env := [(218, C_spec_l8Word)]
theorem g_spec_l8All : EnvOk Tryz.prog G_spec_l8All := (env_cons s_spec_l8Word env_nil)
abbrev c_spec_l8All_2 : Cut := ⟨i_spec_l8All_2, o_spec_l8All_2, fun x => iterF l_spec_l8All_2 lots x⟩
theorem t_spec_l8All_2 (rec x) : run T G_spec_l8All [] (nav Tryz.f217 [1, 0, 1, 0, 0]) (mk 16 i_spec_l8All_2 x) (loopK i_spec_l8All_2 o_spec_l8All_2 rec) = l_spec_l8All_2 rec x := by kernel_rfl
theorem k_spec_l8All_2 : CutOk Tryz.prog 16 (.loop (nav Tryz.f217 [1, 0, 1, 0, 0])) c_spec_l8All_2 :=
  loop_cut (L := []) hT g_spec_l8All t_spec_l8All_2 (plain_ok (by kernel_rfl)) _
theorem r_spec_l8All (x) : runFn T G_spec_l8All [(2, c_spec_l8All_2)] Tryz.f217 P_spec_l8All R_spec_l8All x = F_spec_l8All x := by kernel_rfl
theorem s_spec_l8All : CallsOk Tryz.prog 217 C_spec_l8All :=
  fn_calls (L := [(2, c_spec_l8All_2)]) hT g_spec_l8All Tryz.f217 (by kernel_rfl) (by kernel_rfl) (by kernel_rfl) (seq_ok (plain_ok (by kernel_rfl)) (seq_ok (seq_ok (plain_ok (by kernel_rfl)) (block_ok (by kernel_rfl) (loop_ok (by kernel_rfl) k_spec_l8All_2))) (plain_ok (by kernel_rfl)))) r_spec_l8All
/-! spec.NewHart -/
abbrev P_spec_NewHart : List PK := [.val Y24]
abbrev R_spec_NewHart : List VK := [.g [.dat YI, .own 2 YI, .dat YI, .own 2 YI, .dat .bool, .dat .bool, .dat .bool, .dat YI, .own 2 YI, .own 2 YI]]
def F_spec_NewHart (x : denP P_spec_NewHart) : Option (denV R_spec_NewHart × denQ P_spec_NewHart) :=
  let v1 := ((x.1.length : Nat) : Int)
  if (ltI (40 : Int) v1) then
    some ((((2 : Int), (([] : List (den YI)), ((0 : Int), (([] : List (den YI)), (false, (false, (false, ((0 : Int), (([] : List (den YI)), (([] : List (den YI)), ())))))))))), ()), ())
  else
    (F_spec_l8All (x.1, ())).bind fun r2 =>
    if (!r2.1.1) then
      some ((((3 : Int), (([] : List (den YI)), ((0 : Int), (([] : List (den YI)), (false, (false, (false, ((0 : Int), (([] : List (den YI)), (([] : List (den YI)), ())))))))))), ()), ())
    else
      if (([] : List (den YI)).length + x.1.length) * 8 ≤ 140737488355328 then
        let v3 := (([] : List (den YI)) ++ x.1)
        some ((((0 : Int), ((List.replicate ((16 : Int)).toNat (zeroD YI)), ((0 : Int), ((List.replicate ((11 : Int)).toNat (zeroD YI)), (false, (false, (false, ((0 : Int), (v3, (([] : List (den YI)), ())))))))))), ()), ())
      else none
abbrev C_spec_NewHart : Con := ⟨P_spec_NewHart, R_spec_NewHart, F_spec_NewHart, false⟩
abbrev G_spec_NewHart : Env := [(217, C_spec_l8All)]
theorem g_spec_NewHart : EnvOk Tryz.prog G_spec_NewHart := (env_cons s_spec_l8All env_nil)
theorem r_spec_NewHart (x) : runFn T G_spec_NewHart [] Tryz.f259 P_spec_NewHart R_spec_NewHart x = F_spec_NewHart x := by kernel_rfl
theorem s_spec_NewHart : CallsOk Tryz.prog 259 C_spec_NewHart :=
  fn_calls (L := []) hT g_spec_NewHart Tryz.f259 (by kernel_rfl) (by kernel_rfl) (by kernel_rfl) (plain_ok (by kernel_rfl)) r_spec_NewHart
/-! spec.l1Chance -/
abbrev P_spec_l1Chance : List PK := [.box [.dat Y22, .dat YI] [.dat Y22, .dat YI], .val YI]
abbrev R_spec_l1Chance : List VK := [.s (.dat .bool)]
def F_spec_l1Chance (x : denP P_spec_l1Chance) : Option (denV R_spec_l1Chance × denQ P_spec_l1Chance) :=
  (F_spec_l1Next (x.1, x.2.1, ())).bind fun r1 =>
  some (((r1.1.1 == (0 : Int)), ()), (r1.2.1, ()))
abbrev C_spec_l1Chance : Con := ⟨P_spec_l1Chance, R_spec_l1Chance, F_spec_l1Chance, false⟩
abbrev G_spec_l1Chance : Env := [(54, C_spec_l1Next)]
theorem g_spec_l1Chance : EnvOk Tryz.prog G_spec_l1Chance := (env_cons s_spec_l1Next env_nil)
theorem r_spec_l1Chance (x) : runFn T G_spec_l1Chance [] Tryz.f132 P_spec_l1Chance R_spec_l1Chance x = F_spec_l1Chance x := by kernel_rfl
theorem s_spec_l1Chance : CallsOk Tryz.prog 132 C_spec_l1Chance :=
  fn_calls (L := []) hT g_spec_l1Chance Tryz.f132 (by kernel_rfl) (by kernel_rfl) (by kernel_rfl) (plain_ok (by kernel_rfl)) r_spec_l1Chance
/-! spec.l1Pick -/
abbrev P_spec_l1Pick : List PK := [.box [.dat Y22, .dat YI] [.dat Y22, .dat YI], .val Y24]
abbrev R_spec_l1Pick : List VK := [.s (.dat YI)]
def F_spec_l1Pick (x : denP P_spec_l1Pick) : Option (denV R_spec_l1Pick × denQ P_spec_l1Pick) :=
  let v1 := ((x.2.1.length : Nat) : Int)
  (F_spec_l1Next (x.1, v1, ())).bind fun r2 =>
  if 0 ≤ r2.1.1 then
    ((x.2.1)[(r2.1.1).toNat]?).bind fun y3 =>
    some ((y3, ()), (r2.2.1, ()))
  else none
abbrev C_spec_l1Pick : Con := ⟨P_spec_l1Pick, R_spec_l1Pick, F_spec_l1Pick, false⟩
abbrev G_spec_l1Pick : Env := [(54, C_spec_l1Next)]
theorem g_spec_l1Pick : EnvOk Tryz.prog G_spec_l1Pick := (env_cons s_spec_l1Next env_nil)
theorem r_spec_l1Pick (x) : runFn T G_spec_l1Pick [] Tryz.f53 P_spec_l1Pick R_spec_l1Pick x = F_spec_l1Pick x := by kernel_rfl
theorem s_spec_l1Pick : CallsOk Tryz.prog 53 C_spec_l1Pick :=
  fn_calls (L := []) hT g_spec_l1Pick Tryz.f53 (by kernel_rfl) (by kernel_rfl) (by kernel_rfl) (plain_ok (by kernel_rfl)) r_spec_l1Pick
/-! spec.l1Word -/
abbrev P_spec_l1Word : List PK := [.box [.dat Y22, .dat YI] [.dat Y22, .dat YI]]
abbrev R_spec_l1Word : List VK := [.s (.dat YI)]
def F_spec_l1Word (x : denP P_spec_l1Word) : Option (denV R_spec_l1Word × denQ P_spec_l1Word) :=
  (F_spec_l1Next (x.1, (90 : Int), ())).bind fun r1 =>
  (F_spec_l1Next (r1.2.1, (9 : Int), ())).bind fun r2 =>
  (F_spec_l1Next (r2.2.1, (9 : Int), ())).bind fun r3 =>
  let v4 := (IntKind.i64.wrap ((4294967295 : Int) - r3.1.1))
  (F_spec_l1Next (r3.2.1, (60000 : Int), ())).bind fun r5 =>
  let v6 := (IntKind.i64.wrap (r5.1.1 * (70000 : Int)))
  (F_spec_l1Pick (r5.2.1, [r1.1.1, r2.1.1, v4, (2147483648 : Int), (2147483647 : Int), (0 : Int), v6], ())).bind fun r7 =>
  some ((r7.1.1, ()), (r7.2.1, ()))
abbrev C_spec_l1Word : Con := ⟨P_spec_l1Word, R_spec_l1Word, F_spec_l1Word, false⟩
abbrev G_spec_l1Word : Env := [(53, C_spec_l1Pick), (54, C_spec_l1Next)]
theorem g_spec_l1Word : EnvOk Tryz.prog G_spec_l1Word := (env_cons s_spec_l1Pick (env_cons s_spec_l1Next env_nil))
theorem r_spec_l1Word (x) : runFn T G_spec_l1Word [] Tryz.f213 P_spec_l1Word R_spec_l1Word x = F_spec_l1Word x := by kernel_rfl
theorem s_spec_l1Word : CallsOk Tryz.prog 213 C_spec_l1Word :=
  fn_calls (L := []) hT g_spec_l1Word Tryz.f213 (by kernel_rfl) (by kernel_rfl) (by kernel_rfl) (plain_ok (by kernel_rfl)) r_spec_l1Word
/-! spec.WrapWord -/
abbrev P_spec_WrapWord : List PK := [.val YI]
abbrev R_spec_WrapWord : List VK := [.s (.dat YI)]
def F_spec_WrapWord (x : denP P_spec_WrapWord) : Option (denV R_spec_WrapWord × denQ P_spec_WrapWord) :=
  let v1 := (IntKind.u32.wrap x.1)
  let v2 := (IntKind.i64.wrap v1)
  some ((v2, ()), ())
abbrev C_spec_WrapWord : Con := ⟨P_spec_WrapWord, R_spec_WrapWord, F_spec_WrapWord, false⟩
abbrev G_spec_WrapWord : Env := []
theorem g_spec_WrapWord : EnvOk Tryz.prog G_spec_WrapWord := env_nil
theorem r_spec_WrapWord (x) : runFn T G_spec_WrapWord [] Tryz.f274 P_spec_WrapWord R_spec_WrapWord x = F_spec_WrapWord x := by kernel_rfl
theorem s_spec_WrapWord : CallsOk Tryz.prog 274 C_spec_WrapWord :=
  fn_calls (L := []) hT g_spec_WrapWord Tryz.f274 (by kernel_rfl) (by kernel_rfl) (by kernel_rfl) (plain_ok (by kernel_rfl)) r_spec_WrapWord
/-! spec.l8Set -/
abbrev P_spec_l8Set : List PK := [.box [.own 2 YI, .dat YI, .own 2 YI, .dat .bool, .dat .bool, .dat .bool, .dat YI, .dat Y24, .own 2 YI] [.own 2 YI, .dat YI, .own 2 YI, .dat .bool, .dat .bool, .dat .bool, .dat YI, .dat Y24, .own 2 YI], .val YI, .val YI]
abbrev R_spec_l8Set : List VK := []
def F_spec_l8Set (x : denP P_spec_l8Set) : Option (denV R_spec_l8Set × denQ P_spec_l8Set) :=
  (F_spec_WrapWord (x.2.2.1, ())).bind fun r1 =>
  if (x.2.1 == (0 : Int)) then
    let v2 := ((r1.1.1).tmod (4 : Int))
    if 0 ≤ x.2.1 ∧ x.2.1 < ((x.1.2.2.1.length : Nat) : Int) then
      ((x.1.2.2.1)[(x.2.1).toNat]?).bind fun y3 =>
      let v4 := (x.1.2.2.1.set (x.2.1).toNat v2)
      some ((), ((x.1.1, (x.1.2.1, (v4, (x.1.2.2.2.1, (x.1.2.2.2.2.1, (x.1.2.2.2.2.2.1, (x.1.2.2.2.2.2.2.1, (x.1.2.2.2.2.2.2.2.1, (x.1.2.2.2.2.2.2.2.2.1, ()))))))))), ()))
    else none
  else
    if (x.2.1 == (7 : Int)) then
      let v5 := ((r1.1.1).tmod (8 : Int))
      if 0 ≤ x.2.1 ∧ x.2.1 < ((x.1.2.2.1.length : Nat) : Int) then
        ((x.1.2.2.1)[(x.2.1).toNat]?).bind fun y6 =>
        let v7 := (x.1.2.2.1.set (x.2.1).toNat v5)
        some ((), ((x.1.1, (x.1.2.1, (v7, (x.1.2.2.2.1, (x.1.2.2.2.2.1, (x.1.2.2.2.2.2.1, (x.1.2.2.2.2.2.2.1, (x.1.2.2.2.2.2.2.2.1, (x.1.2.2.2.2.2.2.2.2.1, ()))))))))), ()))
      else none
    else
      if (x.2.1 == (10 : Int)) then
        if 0 ≤ x.2.1 ∧ x.2.1 < ((x.1.2.2.1.length : Nat) : Int) then
          ((x.1.2.2.1)[(x.2.1).toNat]?).bind fun y8 =>
          let v9 := (x.1.2.2.1.set (x.2.1).toNat (0 : Int))
          if (leI r1.1.1 (8 : Int)) then
            if 0 ≤ x.2.1 ∧ x.2.1 < ((v9.length : Nat) : Int) then
              ((v9)[(x.2.1).toNat]?).bind fun y10 =>
              let v11 := (v9.set (x.2.1).toNat r1.1.1)
              some ((), ((x.1.1, (x.1.2.1, (v11, (x.1.2.2.2.1, (x.1.2.2.2.2.1, (x.1.2.2.2.2.2.1, (x.1.2.2.2.2.2.2.1, (x.1.2.2.2.2.2.2.2.1, (x.1.2.2.2.2.2.2.2.2.1, ()))))))))), ()))
            else none
          else
            some ((), ((x.1.1, (x.1.2.1, (v9, (x.1.2.2.2.1, (x.1.2.2.2.2.1, (x.1.2.2.2.2.2.1, (x.1.2.2.2.2.2.2.1, (x.1.2.2.2.2.2.2.2.1, (x.1.2.2.2.2.2.2.2.2.1, ()))))))))), ()))
        else none
      else
        if (x.2.1 == (6 : Int)) then
          if x.1.2.2.2.2.2.1 = true then
            let v12 := ((r1.1.1).tmod (4 : Int))
            some ((), ((x.1.1, (x.1.2.1, (x.1.2.2.1, (x.1.2.2.2.1, (x.1.2.2.2.2.1, ((ltI v12 (2 : Int)), (x.1.2.2.2.2.2.2.1, (x.1.2.2.2.2.2.2.2.1, (x.1.2.2.2.2.2.2.2.2.1, ()))))))))), ()))
          else
            some ((), ((x.1.1, (x.1.2.1, (x.1.2.2.1, (x.1.2.2.2.1, (x.1.2.2.2.2.1, (false, (x.1.2.2.2.2.2.2.1, (x.1.2.2.2.2.2.2.2.1, (x.1.2.2.2.2.2.2.2.2.1, ()))))))))), ()))
        else
          if (x.2.1 == (8 : Int)) then
            some ((), (x.1, ()))
          else
            if 0 ≤ x.2.1 ∧ x.2.1 < ((x.1.2.2.1.length : Nat) : Int) then
              ((x.1.2.2.1)[(x.2.1).toNat]?).bind fun y13 =>
              let v14 := (x.1.2.2.1.set (x.2.1).toNat r1.1.1)
              some ((), ((x.1.1, (x.1.2.1, (v14, (x.1.2.2.2.1, (x.1.2.2.2.2.1, (x.1.2.2.2.2.2.1, (x.1.2.2.2.2.2.2.1, (x.1.2.2.2.2.2.2.2.1, (x.1.2.2.2.2.2.2.2.2.1, ()))))))))), ()))
            else none
abbrev C_spec_l8Set : Con := ⟨P_spec_l8Set, R_spec_l8Set, F_spec_l8Set, false⟩
abbrev G_spec_l8Set : Env := [(274, C_spec_WrapWord)]
theorem g_spec_l8Set : EnvOk Tryz.prog G_spec_l8Set := (env_cons s_spec_WrapWord env_nil)
theorem r_spec_l8Set (x) : runFn T G_spec_l8Set [] Tryz.f227 P_spec_l8Set R_spec_l8Set x = F_spec_l8Set x := by kernel_rfl
theorem s_spec_l8Set : CallsOk Tryz.prog 227 C_spec_l8Set :=
  fn_calls (L := []) hT g_spec_l8Set Tryz.f227 (by kernel_rfl) (by kernel_rfl) (by kernel_rfl) (plain_ok (by kernel_rfl)) r_spec_l8Set
/-! spec.l8Hart -/
abbrev P_spec_l8Hart : List PK := [.box [.dat Y22, .dat YI] [.dat Y22, .dat YI]]
abbrev R_spec_l8Hart : List VK := [.g [.own 2 YI, .dat YI, .own 2 YI, .dat .bool, .dat .bool, .dat .bool, .dat YI, .dat Y24, .own 2 YI]]
abbrev i_spec_l8Hart_10 : Shp := { slots := [(0, .s (.ptr 9000000 0)), (2, .s (.ptr 2 0)), (3, .s (.ptr 3 0)), (5, .s (.dat YI))], boxes := [(2, [.own 2 YI, .dat YI, .own 2 YI, .dat .bool, .dat .bool, .dat .bool, .dat YI, .own 2 YI, .own 2 YI]), (3, [.own 2 YI, .dat YI, .own 2 YI, .dat .bool, .dat .bool, .dat .bool, .dat YI, .dat Y24, .own 2 YI]), (9000000, [.dat Y22, .dat YI])], rows := [] }
abbrev o_spec_l8Hart_10 : List (Ex × Shp) := [(.exit 2, { slots := [(0, .s (.ptr 9000000 0)), (2, .s (.ptr 2 0)), (3, .s (.ptr 3 0))], boxes := [(2, [.own 2 YI, .dat YI, .own 2 YI, .dat .bool, .dat .bool, .dat .bool, .dat YI, .own 2 YI, .own 2 YI]), (3, [.own 2 YI, .dat YI, .own 2 YI, .dat .bool, .dat .bool, .dat .bool, .dat YI, .dat Y24, .own 2 YI]), (9000000, [.dat Y22, .dat YI])], rows := [] })]
def l_spec_l8Hart_10 (rec : i_spec_l8Hart_10.den → Option (denO o_spec_l8Hart_10)) (u10 : i_spec_l8Hart_10.den) : Option (denO o_spec_l8Hart_10) :=
  if (ltI u10.1.2.2.2.1 (11 : Int)) then
    (F_spec_l1Chance (u10.2.1.2.2.1, (2 : Int), ())).bind fun r38 =>
    if r38.1.1 then
      (F_spec_l1Next (r38.2.1, (9 : Int), ())).bind fun r39 =>
      (F_spec_l1Next (r39.2.1, (60 : Int), ())).bind fun r40 =>
      (F_spec_l1Word (r40.2.1, ())).bind fun r41 =>
      (F_spec_l1Pick (r41.2.1, [r39.1.1, r40.1.1, r41.1.1], ())).bind fun r42 =>
      (F_spec_l8Set (u10.2.1.2.1, u10.1.2.2.2.1, r42.1.1, ())).bind fun r43 =>
      let v44 := (IntKind.i64.wrap (u10.1.2.2.2.1 + (1 : Int)))
      rec (((), ((), ((), (v44, ())))), ((u10.2.1.1, (r43.2.1, (r42.2.1, ()))), ()))
    else
      let v45 := (IntKind.i64.wrap (u10.1.2.2.2.1 + (1 : Int)))
      rec (((), ((), ((), (v45, ())))), ((u10.2.1.1, (u10.2.1.2.1, (r38.2.1, ()))), ()))
  else
    some (.inl (((), ((), ((), ()))), ((u10.2.1.1, (u10.2.1.2.1, (u10.2.1.2.2.1, ()))), ())))
def L_spec_l8Hart_10 (x : i_spec_l8Hart_10.den) : Option (denO o_spec_l8Hart_10) := iterF l_spec_l8Hart_10 lots x
abbrev i_spec_l8Hart_3 : Shp := { slots := [(0, .s (.ptr 9000000 0)), (2, .s (.ptr 2 0)), (3, .s (.ptr 3 0)), (4, .s (.dat YI))], boxes := [(2, [.own 2 YI, .dat YI, .own 2 YI, .dat .bool, .dat .bool, .dat .bool, .dat YI, .own 2 YI, .own 2 YI]), (3, [.own 2 YI, .dat YI, .own 2 YI, .dat .bool, .dat .bool, .dat .bool, .dat YI, .own 2 YI, .own 2 YI]), (9000000, [.dat Y22, .dat YI])], rows := [] }
abbrev o_spec_l8Hart_3 : List (Ex × Shp) := [(.exit 0, { slots := [(0, .s (.ptr 9000000 0)), (2, .s (.ptr 2 0)), (3, .s (.ptr 3 0))], boxes := [(2, [.own 2 YI, .dat YI, .own 2 YI, .dat .bool, .dat .bool, .dat .bool, .dat YI, .own 2 YI, .own 2 YI]), (3, [.own 2 YI, .dat YI, .own 2 YI, .dat .bool, .dat .bool, .dat .bool, .dat YI, .own 2 YI, .own 2 YI]), (9000000, [.dat Y22, .dat YI])], rows := [] })]
def l_spec_l8Hart_3 (rec : i_spec_l8Hart_3.den → Option (denO o_spec_l8Hart_3)) (u3 : i_spec_l8Hart_3.den) : Option (denO o_spec_l8Hart_3) :=
  if (ltI u3.1.2.2.2.1 (16 : Int)) then
    (F_spec_l1Chance (u3.2.1.2.2.1, (3 : Int), ())).bind fun r9 =>
    if r9.1.1 then
      (F_spec_l1Word (r9.2.1, ())).bind fun r10 =>
      (F_spec_l1Next (r10.2.1, (64 : Int), ())).bind fun r11 =>
      (F_spec_l1Next (r11.2.1, (8 : Int), ())).bind fun r12 =>
      let v13 := (IntKind.i64.wrap ((56 : Int) + r12.1.1))
      (F_spec_l1Pick (r12.2.1, [r10.1.1, r11.1.1, v13], ())).bind fun r14 =>
      if 0 ≤ u3.1.2.2.2.1 ∧ u3.1.2.2.2.1 < ((u3.2.1.2.1.1.length : Nat) : Int) then
        ((u3.2.1.2.1.1)[(u3.1.2.2.2.1).toNat]?).bind fun y15 =>
        let v16 := (u3.2.1.2.1.1.set (u3.1.2.2.2.1).toNat r14.1.1)
        let v17 := (IntKind.i64.wrap (u3.1.2.2.2.1 + (1 : Int)))
        rec (((), ((), ((), (v17, ())))), ((u3.2.1.1, ((v16, (u3.2.1.2.1.2.1, (u3.2.1.2.1.2.2.1, (u3.2.1.2.1.2.2.2.1, (u3.2.1.2.1.2.2.2.2.1, (u3.2.1.2.1.2.2.2.2.2.1, (u3.2.1.2.1.2.2.2.2.2.2.1, (u3.2.1.2.1.2.2.2.2.2.2.2.1, (u3.2.1.2.1.2.2.2.2.2.2.2.2.1, ()))))))))), (r14.2.1, ()))), ()))
      else none
    else
      let v18 := (IntKind.i64.wrap (u3.1.2.2.2.1 + (1 : Int)))
      rec (((), ((), ((), (v18, ())))), ((u3.2.1.1, (u3.2.1.2.1, (r9.2.1, ()))), ()))
  else
    some (.inl (((), ((), ((), ()))), ((u3.2.1.1, (u3.2.1.2.1, (u3.2.1.2.2.1, ()))), ())))
def L_spec_l8Hart_3 (x : i_spec_l8Hart_3.den) : Option (denO o_spec_l8Hart_3) := iterF l_spec_l8Hart_3 lots x
def F_spec_l8Hart (x : denP P_spec_l8Hart) : Option (denV R_spec_l8Hart × denQ P_spec_l8Hart) :=
  (F_spec_l1Next (x.1, (3 : Int), ())).bind fun r1 =>
  if 0 ≤ (0 : Int) ∧ (0 : Int) ≤ r1.1.1 ∧ r1.1.1 ≤ (([(7 : Int), (8 : Int)].length : Nat) : Int) then
    (F_spec_NewHart ((([(7 : Int), (8 : Int)].drop (0 + ((0 : Int)).toNat)).take ((r1.1.1).toNat - ((0 : Int)).toNat)), ())).bind fun r2 =>
    (L_spec_l8Hart_3 (((), ((), ((), ((1 : Int), ())))), (((([] : List (den YI)), ((0 : Int), (([] : List (den YI)), (false, (false, (false, ((0 : Int), (([] : List (den YI)), (([] : List (den YI)), ()))))))))), ((r2.1.1.2.1, (r2.1.1.2.2.1, (r2.1.1.2.2.2.1, (r2.1.1.2.2.2.2.1, (r2.1.1.2.2.2.2.2.1, (r2.1.1.2.2.2.2.2.2.1, (r2.1.1.2.2.2.2.2.2.2.1, (r2.1.1.2.2.2.2.2.2.2.2.1, (r2.1.1.2.2.2.2.2.2.2.2.2.1, ()))))))))), (r1.2.1, ()))), ()))).bind fun z19 =>
    match z19 with
    | .inl x20 =>
      (F_spec_l1Next (x20.2.1.2.2.1, (24 : Int), ())).bind fun r21 =>
      (F_spec_l1Next (r21.2.1, (24 : Int), ())).bind fun r22 =>
      (F_spec_l1Word (r22.2.1, ())).bind fun r23 =>
      (F_spec_l1Pick (r23.2.1, [r21.1.1, r22.1.1, r23.1.1], ())).bind fun r24 =>
      (F_spec_l1Next (r24.2.1, (90 : Int), ())).bind fun r25 =>
      (L_spec_l8Hart_10 (((), ((), ((), ((0 : Int), ())))), ((x20.2.1.1, ((x20.2.1.2.1.1, (r24.1.1, (x20.2.1.2.1.2.2.1, (x20.2.1.2.1.2.2.2.1, (x20.2.1.2.1.2.2.2.2.1, (x20.2.1.2.1.2.2.2.2.2.1, (r25.1.1, (x20.2.1.2.1.2.2.2.2.2.2.2.1, (x20.2.1.2.1.2.2.2.2.2.2.2.2.1, ()))))))))), (r25.2.1, ()))), ()))).bind fun z46 =>
      match z46 with
      | .inl x47 =>
        (F_spec_l1Chance (x47.2.1.2.2.1, (3 : Int), ())).bind fun r48 =>
        (F_spec_l1Chance (r48.2.1, (8 : Int), ())).bind fun r49 =>
        (F_spec_l1Chance (r49.2.1, (20 : Int), ())).bind fun r50 =>
        (F_spec_l1Chance (r50.2.1, (20 : Int), ())).bind fun r51 =>
        if r51.1.1 then
          some (((x47.2.1.2.1.1, (x47.2.1.2.1.2.1, (x47.2.1.2.1.2.2.1, (r50.1.1, (r49.1.1, (r48.1.1, (x47.2.1.2.1.2.2.2.2.2.2.1, (x47.2.1.2.1.2.2.2.2.2.2.2.1, ((List.replicate ((40 : Int)).toNat (zeroD YI)), ()))))))))), ()), (r51.2.1, ()))
        else
          some (((x47.2.1.2.1.1, (x47.2.1.2.1.2.1, (x47.2.1.2.1.2.2.1, (r50.1.1, (r49.1.1, (r48.1.1, (x47.2.1.2.1.2.2.2.2.2.2.1, (x47.2.1.2.1.2.2.2.2.2.2.2.1, (x47.2.1.2.1.2.2.2.2.2.2.2.2.1, ()))))))))), ()), (r51.2.1, ()))
      | .inr z46_ =>
        none
    | .inr z19_ =>
      none
  else none
abbrev C_spec_l8Hart : Con := ⟨P_spec_l8Hart, R_spec_l8Hart, F_spec_l8Hart, false⟩
abbrev G_spec_l8Hart : Env := [(53, C_spec_l1Pick), (54, C_spec_l1Next), (132, C_spec_l1Chance), (213, C_spec_l1Word), (227, C_spec_l8Set), (259, C_spec_NewHart)]
theorem g_spec_l8Hart : EnvOk Tryz.prog G_spec_l8Hart := (env_cons s_spec_l1Pick (env_cons s_spec_l1Next (env_cons s_spec_l1Chance (env_cons s_spec_l1Word (env_cons s_spec_l8Set (env_cons s_spec_NewHart env_nil))))))
abbrev c_spec_l8Hart_10 : Cut := ⟨i_spec_l8Hart_10, o_spec_l8Hart_10, fun x => iterF l_spec_l8Hart_10 lots x⟩
theorem t_spec_l8Hart_10 (rec x) : run T G_spec_l8Hart [] (nav Tryz.f209 [1, 1, 1, 1, 1, 0, 1, 0, 0]) (mk 76 i_spec_l8Hart_10 x) (loopK i_spec_l8Hart_10 o_spec_l8Hart_10 rec) = l_spec_l8Hart_10 rec x := by kernel_rfl
theorem k_spec_l8Hart_10 : CutOk Tryz.prog 76 (.loop (nav Tryz.f209 [1, 1, 1, 1, 1, 0, 1, 0, 0])) c_spec_l8Hart_10 :=
  loop_cut (L := []) hT g_spec_l8Hart t_spec_l8Hart_10 (plain_ok (by kernel_rfl)) _
abbrev c_spec_l8Hart_3 : Cut := ⟨i_spec_l8Hart_3, o_spec_l8Hart_3, fun x => iterF l_spec_l8Hart_3 lots x⟩
theorem t_spec_l8Hart_3 (rec x) : run T G_spec_l8Hart [] (nav Tryz.f209 [1, 1, 0, 1, 0, 0]) (mk 76 i_spec_l8Hart_3 x) (loopK i_spec_l8Hart_3 o_spec_l8Hart_3 rec) = l_spec_l8Hart_3 rec x := by kernel_rfl
theorem k_spec_l8Hart_3 : CutOk Tryz.prog 76 (.loop (nav Tryz.f209 [1, 1, 0, 1, 0, 0])) c_spec_l8Hart_3 :=
  loop_cut (L := []) hT g_spec_l8Hart t_spec_l8Hart_3 (plain_ok (by kernel_rfl)) _
theorem r_spec_l8Hart (x) : runFn T G_spec_l8Hart [(10, c_spec_l8Hart_10), (3, c_spec_l8Hart_3)] Tryz.f209 P_spec_l8Hart R_spec_l8Hart x = F_spec_l8Hart x := by kernel_rfl
theorem s_spec_l8Hart : CallsOk Tryz.prog 209 C_spec_l8Hart :=
  fn_calls (L := [(10, c_spec_l8Hart_10), (3, c_spec_l8Hart_3)]) hT g_spec_l8Hart Tryz.f209 (by kernel_rfl) (by kernel_rfl) (by kernel_rfl) (seq_ok (plain_ok (by kernel_rfl)) (seq_ok (plain_ok (by kernel_rfl)) (seq_ok (seq_ok (plain_ok (by kernel_rfl)) (block_ok (by kernel_rfl) (loop_ok (by kernel_rfl) k_spec_l8Hart_3))) (seq_ok (plain_ok (by kernel_rfl)) (seq_ok (plain_ok (by kernel_rfl)) (seq_ok (seq_ok (plain_ok (by kernel_rfl)) (block_ok (by kernel_rfl) (loop_ok (by kernel_rfl) k_spec_l8Hart_10))) (plain_ok (by kernel_rfl)))))))) r_spec_l8Hart
/-! spec.l8Bent -/
abbrev P_spec_l8Bent : List PK := [.box [.dat Y22, .dat YI] [.dat Y22, .dat YI]]
abbrev R_spec_l8Bent : List VK := [.g [.dat Y24, .dat YI, .own 2 YI, .dat .bool, .dat .bool, .dat .bool, .dat YI, .dat Y24, .own 2 YI]]
def F_spec_l8Bent (x : denP P_spec_l8Bent) : Option (denV R_spec_l8Bent × denQ P_spec_l8Bent) :=
  (F_spec_l8Hart (x.1, ())).bind fun r1 =>
  (F_spec_l1Next (r1.2.1, (20 : Int), ())).bind fun r2 =>
  if (r2.1.1 == (0 : Int)) then
    if 0 ≤ (0 : Int) ∧ (0 : Int) < ((r1.1.1.1.length : Nat) : Int) then
      ((r1.1.1.1)[((0 : Int)).toNat]?).bind fun y3 =>
      let v4 := (r1.1.1.1.set ((0 : Int)).toNat (1 : Int))
      some (((v4, (r1.1.1.2.1, (r1.1.1.2.2.1, (r1.1.1.2.2.2.1, (r1.1.1.2.2.2.2.1, (r1.1.1.2.2.2.2.2.1, (r1.1.1.2.2.2.2.2.2.1, (r1.1.1.2.2.2.2.2.2.2.1, (r1.1.1.2.2.2.2.2.2.2.2.1, ()))))))))), ()), (r2.2.1, ()))
    else none
  else
    if (r2.1.1 == (1 : Int)) then
      if 0 ≤ (1 : Int) ∧ (1 : Int) ≤ ((r1.1.1.1.length : Nat) : Int) ∧ ((r1.1.1.1.length : Nat) : Int) ≤ ((r1.1.1.1.length : Nat) : Int) then
        some (((((r1.1.1.1.drop (0 + ((1 : Int)).toNat)).take ((((r1.1.1.1.length : Nat) : Int)).toNat - ((1 : Int)).toNat)), (r1.1.1.2.1, (r1.1.1.2.2.1, (r1.1.1.2.2.2.1, (r1.1.1.2.2.2.2.1, (r1.1.1.2.2.2.2.2.1, (r1.1.1.2.2.2.2.2.2.1, (r1.1.1.2.2.2.2.2.2.2.1, (r1.1.1.2.2.2.2.2.2.2.2.1, ()))))))))), ()), (r2.2.1, ()))
      else none
    else
      if (r2.1.1 == (2 : Int)) then
        (F_spec_l1Next (r2.2.1, (11 : Int), ())).bind fun r5 =>
        (F_spec_l1Pick (r5.2.1, [(-1 : Int), (4 : Int), (9 : Int), (4294967296 : Int)], ())).bind fun r6 =>
        if 0 ≤ r5.1.1 ∧ r5.1.1 < ((r1.1.1.2.2.1.length : Nat) : Int) then
          ((r1.1.1.2.2.1)[(r5.1.1).toNat]?).bind fun y7 =>
          let v8 := (r1.1.1.2.2.1.set (r5.1.1).toNat r6.1.1)
          some (((r1.1.1.1, (r1.1.1.2.1, (v8, (r1.1.1.2.2.2.1, (r1.1.1.2.2.2.2.1, (r1.1.1.2.2.2.2.2.1, (r1.1.1.2.2.2.2.2.2.1, (r1.1.1.2.2.2.2.2.2.2.1, (r1.1.1.2.2.2.2.2.2.2.2.1, ()))))))))), ()), (r6.2.1, ()))
        else none
      else
        if (r2.1.1 == (3 : Int)) then
          (F_spec_l1Pick (r2.2.1, [(-1 : Int), (4294967296 : Int)], ())).bind fun r9 =>
          some (((r1.1.1.1, (r9.1.1, (r1.1.1.2.2.1, (r1.1.1.2.2.2.1, (r1.1.1.2.2.2.2.1, (r1.1.1.2.2.2.2.2.1, (r1.1.1.2.2.2.2.2.2.1, (r1.1.1.2.2.2.2.2.2.2.1, (r1.1.1.2.2.2.2.2.2.2.2.1, ()))))))))), ()), (r9.2.1, ()))
        else
          if (r2.1.1 == (4 : Int)) then
            some (((r1.1.1.1, (r1.1.1.2.1, (r1.1.1.2.2.1, (r1.1.1.2.2.2.1, (r1.1.1.2.2.2.2.1, (r1.1.1.2.2.2.2.2.1, (r1.1.1.2.2.2.2.2.2.1, ((List.replicate ((41 : Int)).toNat (zeroD YI)), (r1.1.1.2.2.2.2.2.2.2.2.1, ()))))))))), ()), (r2.2.1, ()))
          else
            if (r2.1.1 == (5 : Int)) then
              (F_spec_l1Pick (r2.2.1, [(-1 : Int), (1000000000 : Int), (1000000001 : Int)], ())).bind fun r10 =>
              some (((r1.1.1.1, (r1.1.1.2.1, (r1.1.1.2.2.1, (r1.1.1.2.2.2.1, (r1.1.1.2.2.2.2.1, (r1.1.1.2.2.2.2.2.1, (r10.1.1, (r1.1.1.2.2.2.2.2.2.2.1, (r1.1.1.2.2.2.2.2.2.2.2.1, ()))))))))), ()), (r10.2.1, ()))
            else
              some ((r1.1.1, ()), (r2.2.1, ()))
abbrev C_spec_l8Bent : Con := ⟨P_spec_l8Bent, R_spec_l8Bent, F_spec_l8Bent, false⟩
abbrev G_spec_l8Bent : Env := [(53, C_spec_l1Pick), (54, C_spec_l1Next), (209, C_spec_l8Hart)]
theorem g_spec_l8Bent : EnvOk Tryz.prog G_spec_l8Bent := (env_cons s_spec_l1Pick (env_cons s_spec_l1Next (env_cons s_spec_l8Hart env_nil)))
theorem r_spec_l8Bent (x) : runFn T G_spec_l8Bent [] Tryz.f130 P_spec_l8Bent R_spec_l8Bent x = F_spec_l8Bent x := by kernel_rfl
theorem s_spec_l8Bent : CallsOk Tryz.prog 130 C_spec_l8Bent :=
  fn_calls (L := []) hT g_spec_l8Bent Tryz.f130 (by kernel_rfl) (by kernel_rfl) (by kernel_rfl) (plain_ok (by kernel_rfl)) r_spec_l8Bent
/-! spec.l4None -/
abbrev P_spec_l4None : List PK := []
abbrev R_spec_l4None : List VK := [.s (.dat Y40)]
def F_spec_l4None (x : denP P_spec_l4None) : Option (denV R_spec_l4None × denQ P_spec_l4None) :=
  some ((((-1 : Int), ((0 : Int), ())), ()), ())
abbrev C_spec_l4None : Con := ⟨P_spec_l4None, R_spec_l4None, F_spec_l4None, false⟩
abbrev G_spec_l4None : Env := []
theorem g_spec_l4None : EnvOk Tryz.prog G_spec_l4None := env_nil
theorem r_spec_l4None (x) : runFn T G_spec_l4None [] Tryz.f251 P_spec_l4None R_spec_l4None x = F_spec_l4None x := by kernel_rfl
theorem s_spec_l4None : CallsOk Tryz.prog 251 C_spec_l4None :=
  fn_calls (L := []) hT g_spec_l4None Tryz.f251 (by kernel_rfl) (by kernel_rfl) (by kernel_rfl) (plain_ok (by kernel_rfl)) r_spec_l4None
/-! spec.l4Pages -/
abbrev P_spec_l4Pages : List PK := [.box [.dat Y22, .dat YI] [.dat Y22, .dat YI], .val YI]
abbrev R_spec_l4Pages : List VK := [.s (.own 41 Y40)]
abbrev i_spec_l4Pages_3 : Shp := { slots := [(0, .s (.ptr 9000000 0)), (1, .s (.dat YI)), (5, .s (.own 41 Y40)), (6, .s (.dat YI))], boxes := [(9000000, [.dat Y22, .dat YI])], rows := [] }
abbrev o_spec_l4Pages_3 : List (Ex × Shp) := [(.exit 0, { slots := [(5, .s (.own 41 Y40))], boxes := [(9000000, [.dat Y22, .dat YI])], rows := [] })]
def l_spec_l4Pages_3 (rec : i_spec_l4Pages_3.den → Option (denO o_spec_l4Pages_3)) (u3 : i_spec_l4Pages_3.den) : Option (denO o_spec_l4Pages_3) :=
  if (ltI u3.1.2.2.2.1 (8 : Int)) then
    (F_spec_l1Next (u3.2.1.1, u3.1.2.1, ())).bind fun r5 =>
    (F_spec_l1Pick (r5.2.1, [(7 : Int), (3 : Int), (1 : Int), (5 : Int), (2 : Int), (4 : Int)], ())).bind fun r6 =>
    (F_spec_l1Chance (r6.2.1, (4 : Int), ())).bind fun r7 =>
    if r7.1.1 then
      (F_spec_l4None ()).bind fun r8 =>
      if (u3.1.2.2.1.length + [r8.1.1].length) * 16 ≤ 140737488355328 then
        let v9 := (u3.1.2.2.1 ++ [r8.1.1])
        let v10 := (IntKind.i64.wrap (u3.1.2.2.2.1 + (1 : Int)))
        rec (((), (u3.1.2.1, (v9, (v10, ())))), ((r7.2.1, ()), ()))
      else none
    else
      if (u3.1.2.2.1.length + [(r5.1.1, (r6.1.1, ()))].length) * 16 ≤ 140737488355328 then
        let v11 := (u3.1.2.2.1 ++ [(r5.1.1, (r6.1.1, ()))])
        let v12 := (IntKind.i64.wrap (u3.1.2.2.2.1 + (1 : Int)))
        rec (((), (u3.1.2.1, (v11, (v12, ())))), ((r7.2.1, ()), ()))
      else none
  else
    some (.inl ((u3.1.2.2.1, ()), ((u3.2.1.1, ()), ())))
def L_spec_l4Pages_3 (x : i_spec_l4Pages_3.den) : Option (denO o_spec_l4Pages_3) := iterF l_spec_l4Pages_3 lots x
def F_spec_l4Pages (x : denP P_spec_l4Pages) : Option (denV R_spec_l4Pages × denQ P_spec_l4Pages) :=
  (L_spec_l4Pages_3 (((), (x.2.1, (([] : List (den Y40)), ((0 : Int), ())))), ((x.1, ()), ()))).bind fun z13 =>
  match z13 with
  | .inl x14 =>
    some ((x14.1.1, ()), (x14.2.1.1, ()))
  | .inr z13_ =>
    none
abbrev C_spec_l4Pages : Con := ⟨P_spec_l4Pages, R_spec_l4Pages, F_spec_l4Pages, false⟩
abbrev G_spec_l4Pages : Env := [(53, C_spec_l1Pick), (54, C_spec_l1Next), (132, C_spec_l1Chance), (251, C_spec_l4None)]
theorem g_spec_l4Pages : EnvOk Tryz.prog G_spec_l4Pages := (env_cons s_spec_l1Pick (env_cons s_spec_l1Next (env_cons s_spec_l1Chance (env_cons s_spec_l4None env_nil))))
abbrev c_spec_l4Pages_3 : Cut := ⟨i_spec_l4Pages_3, o_spec_l4Pages_3, fun x => iterF l_spec_l4Pages_3 lots x⟩
theorem t_spec_l4Pages_3 (rec x) : run T G_spec_l4Pages [] (nav Tryz.f210 [1, 1, 0, 1, 0, 0]) (mk 28 i_spec_l4Pages_3 x) (loopK i_spec_l4Pages_3 o_spec_l4Pages_3 rec) = l_spec_l4Pages_3 rec x := by kernel_rfl
theorem k_spec_l4Pages_3 : CutOk Tryz.prog 28 (.loop (nav Tryz.f210 [1, 1, 0, 1, 0, 0])) c_spec_l4Pages_3 :=
  loop_cut (L := []) hT g_spec_l4Pages t_spec_l4Pages_3 (plain_ok (by kernel_rfl)) _
theorem r_spec_l4Pages (x) : runFn T G_spec_l4Pages [(3, c_spec_l4Pages_3)] Tryz.f210 P_spec_l4Pages R_spec_l4Pages x = F_spec_l4Pages x := by kernel_rfl
theorem s_spec_l4Pages : CallsOk Tryz.prog 210 C_spec_l4Pages :=
  fn_calls (L := [(3, c_spec_l4Pages_3)]) hT g_spec_l4Pages Tryz.f210 (by kernel_rfl) (by kernel_rfl) (by kernel_rfl) (seq_ok (plain_ok (by kernel_rfl)) (seq_ok (plain_ok (by kernel_rfl)) (seq_ok (seq_ok (plain_ok (by kernel_rfl)) (block_ok (by kernel_rfl) (loop_ok (by kernel_rfl) k_spec_l4Pages_3))) (plain_ok (by kernel_rfl))))) r_spec_l4Pages
/-! spec.l4Bent -/
abbrev P_spec_l4Bent : List PK := [.box [.dat Y22, .dat YI] [.dat Y22, .dat YI], .val YI]
abbrev R_spec_l4Bent : List VK := [.s (.vw 41 Y40)]
def F_spec_l4Bent (x : denP P_spec_l4Bent) : Option (denV R_spec_l4Bent × denQ P_spec_l4Bent) :=
  (F_spec_l4Pages (x.1, x.2.1, ())).bind fun r1 =>
  (F_spec_l1Next (r1.2.1, (8 : Int), ())).bind fun r2 =>
  (F_spec_l1Next (r2.2.1, (20 : Int), ())).bind fun r3 =>
  if (r3.1.1 == (0 : Int)) then
    (F_spec_l1Pick (r3.2.1, [(-2 : Int), x.2.1, (-1 : Int)], ())).bind fun r4 =>
    if 0 ≤ r2.1.1 ∧ r2.1.1 < ((r1.1.1.length : Nat) : Int) then
      ((r1.1.1)[(r2.1.1).toNat]?).bind fun y5 =>
      let v6 := (r1.1.1.set (r2.1.1).toNat (r4.1.1, y5.2))
      some (((v6, ((0 : Nat), v6.length)), ()), (r4.2.1, ()))
    else none
  else
    if (r3.1.1 == (1 : Int)) then
      (F_spec_l1Pick (r3.2.1, [(-1 : Int), (8 : Int), (0 : Int), (7 : Int)], ())).bind fun r7 =>
      if 0 ≤ r2.1.1 ∧ r2.1.1 < ((r1.1.1.length : Nat) : Int) then
        ((r1.1.1)[(r2.1.1).toNat]?).bind fun y8 =>
        let v9 := (r1.1.1.set (r2.1.1).toNat (y8.1, (r7.1.1, y8.2.2)))
        some (((v9, ((0 : Nat), v9.length)), ()), (r7.2.1, ()))
      else none
    else
      if (r3.1.1 == (2 : Int)) then
        if 0 ≤ (1 : Int) ∧ (1 : Int) ≤ ((r1.1.1.length : Nat) : Int) ∧ ((r1.1.1.length : Nat) : Int) ≤ ((r1.1.1.length : Nat) : Int) then
          some (((r1.1.1, ((0 + ((1 : Int)).toNat), ((((r1.1.1.length : Nat) : Int)).toNat - ((1 : Int)).toNat))), ()), (r3.2.1, ()))
        else none
      else
        some (((r1.1.1, ((0 : Nat), r1.1.1.length)), ()), (r3.2.1, ()))
abbrev C_spec_l4Bent : Con := ⟨P_spec_l4Bent, R_spec_l4Bent, F_spec_l4Bent, false⟩
abbrev G_spec_l4Bent : Env := [(53, C_spec_l1Pick), (54, C_spec_l1Next), (210, C_spec_l4Pages)]
theorem g_spec_l4Bent : EnvOk Tryz.prog G_spec_l4Bent := (env_cons s_spec_l1Pick (env_cons s_spec_l1Next (env_cons s_spec_l4Pages env_nil)))
theorem r_spec_l4Bent (x) : runFn T G_spec_l4Bent [] Tryz.f131 P_spec_l4Bent R_spec_l4Bent x = F_spec_l4Bent x := by kernel_rfl
theorem s_spec_l4Bent : CallsOk Tryz.prog 131 C_spec_l4Bent :=
  fn_calls (L := []) hT g_spec_l4Bent Tryz.f131 (by kernel_rfl) (by kernel_rfl) (by kernel_rfl) (plain_ok (by kernel_rfl)) r_spec_l4Bent
/-! spec.NewMemory -/
abbrev P_spec_NewMemory : List PK := [.val YI]
abbrev R_spec_NewMemory : List VK := [.g [.dat YI, .own 2 YI]]
def F_spec_NewMemory (x : denP P_spec_NewMemory) : Option (denV R_spec_NewMemory × denQ P_spec_NewMemory) :=
  (F_spec_l1In (x.1, (1 : Int), (24 : Int), ())).bind fun r1 =>
  if (!r1.1.1) then
    some ((((3 : Int), (([] : List (den YI)), ())), ()), ())
  else
    let v2 := (IntKind.i64.wrap (x.1 * (8 : Int)))
    if v2 = v2 ∧ 0 ≤ v2 ∧ v2 * 8 ≤ 140737488355328 ∧ v2 ≤ 9223372036854775807 then
      some ((((0 : Int), ((List.replicate (v2).toNat (zeroD YI)), ())), ()), ())
    else none
abbrev C_spec_NewMemory : Con := ⟨P_spec_NewMemory, R_spec_NewMemory, F_spec_NewMemory, false⟩
abbrev G_spec_NewMemory : Env := [(59, C_spec_l1In)]
theorem g_spec_NewMemory : EnvOk Tryz.prog G_spec_NewMemory := (env_cons s_spec_l1In env_nil)
theorem r_spec_NewMemory (x) : runFn T G_spec_NewMemory [] Tryz.f133 P_spec_NewMemory R_spec_NewMemory x = F_spec_NewMemory x := by kernel_rfl
theorem s_spec_NewMemory : CallsOk Tryz.prog 133 C_spec_NewMemory :=
  fn_calls (L := []) hT g_spec_NewMemory Tryz.f133 (by kernel_rfl) (by kernel_rfl) (by kernel_rfl) (plain_ok (by kernel_rfl)) r_spec_NewMemory
/-! spec.l2Bare -/
abbrev P_spec_l2Bare : List PK := [.val YI]
abbrev R_spec_l2Bare : List VK := [.s (.dat .bool), .s (.dat .bool), .s (.dat .bool)]
def F_spec_l2Bare (x : denP P_spec_l2Bare) : Option (denV R_spec_l2Bare × denQ P_spec_l2Bare) :=
  if (x.1 == (13 : Int)) then
    some ((false, true, false, ()), ())
  else
    if (x.1 == (19 : Int)) then
      some ((false, true, false, ()), ())
    else
      if (x.1 == (21 : Int)) then
        some ((false, true, false, ()), ())
      else
        if (x.1 == (22 : Int)) then
          some ((true, false, false, ()), ())
        else
          if (x.1 == (23 : Int)) then
            some ((true, true, true, ()), ())
          else
            if (x.1 == (24 : Int)) then
              some ((true, true, true, ()), ())
            else
              if (x.1 == (25 : Int)) then
                some ((true, true, true, ()), ())
              else
                if (x.1 == (26 : Int)) then
                  some ((true, true, true, ()), ())
                else
                  some ((false, false, false, ()), ())
abbrev C_spec_l2Bare : Con := ⟨P_spec_l2Bare, R_spec_l2Bare, F_spec_l2Bare, false⟩
abbrev G_spec_l2Bare : Env := []
theorem g_spec_l2Bare : EnvOk Tryz.prog G_spec_l2Bare := env_nil
theorem r_spec_l2Bare (x) : runFn T G_spec_l2Bare [] Tryz.f270 P_spec_l2Bare R_spec_l2Bare x = F_spec_l2Bare x := by kernel_rfl
theorem s_spec_l2Bare : CallsOk Tryz.prog 270 C_spec_l2Bare :=
  fn_calls (L := []) hT g_spec_l2Bare Tryz.f270 (by kernel_rfl) (by kernel_rfl) (by kernel_rfl) (plain_ok (by kernel_rfl)) r_spec_l2Bare
/-! spec.l2Ins -/
abbrev P_spec_l2Ins : List PK := [.box [.dat Y22, .dat YI] [.dat Y22, .dat YI]]
abbrev R_spec_l2Ins : List VK := [.s (.dat Y42)]
def F_spec_l2Ins (x : denP P_spec_l2Ins) : Option (denV R_spec_l2Ins × denQ P_spec_l2Ins) :=
  (F_spec_l1Next (x.1, (26 : Int), ())).bind fun r1 =>
  let v2 := (IntKind.i64.wrap ((1 : Int) + r1.1.1))
  (F_spec_l1Next (r1.2.1, (16 : Int), ())).bind fun r3 =>
  (F_spec_l1Next (r3.2.1, (16 : Int), ())).bind fun r4 =>
  (F_spec_l1Next (r4.2.1, (16 : Int), ())).bind fun r5 =>
  (F_spec_l1Next (r5.2.1, (64 : Int), ())).bind fun r6 =>
  (F_spec_l1Next (r6.2.1, (8 : Int), ())).bind fun r7 =>
  let v8 := (IntKind.i64.wrap ((65535 : Int) - r7.1.1))
  (F_spec_l1Pick (r7.2.1, [r5.1.1, r6.1.1, v8], ())).bind fun r9 =>
  (F_spec_l2Bare (v2, ())).bind fun r10 =>
  if r10.1.1 then
    if r10.1.2.1 then
      if r10.1.2.2.1 then
        if (leI v2 (11 : Int)) then
          let v11 := (((0 : Int)).tmod (16 : Int))
          if (v2 == (21 : Int)) = false then
            if (v2 == (22 : Int)) then
              let v12 := ((v11).tmod (11 : Int))
              some (((v2, ((0 : Int), ((0 : Int), (v12, ())))), ()), (r9.2.1, ()))
            else
              some (((v2, ((0 : Int), ((0 : Int), (v11, ())))), ()), (r9.2.1, ()))
          else
            let v13 := ((v11).tmod (11 : Int))
            some (((v2, ((0 : Int), ((0 : Int), (v13, ())))), ()), (r9.2.1, ()))
        else
          if (v2 == (21 : Int)) = false then
            if (v2 == (22 : Int)) then
              let v14 := (((0 : Int)).tmod (11 : Int))
              some (((v2, ((0 : Int), ((0 : Int), (v14, ())))), ()), (r9.2.1, ()))
            else
              some (((v2, ((0 : Int), ((0 : Int), ((0 : Int), ())))), ()), (r9.2.1, ()))
          else
            let v15 := (((0 : Int)).tmod (11 : Int))
            some (((v2, ((0 : Int), ((0 : Int), (v15, ())))), ()), (r9.2.1, ()))
      else
        if (leI v2 (11 : Int)) then
          let v16 := ((r9.1.1).tmod (16 : Int))
          if (v2 == (21 : Int)) = false then
            if (v2 == (22 : Int)) then
              let v17 := ((v16).tmod (11 : Int))
              some (((v2, ((0 : Int), ((0 : Int), (v17, ())))), ()), (r9.2.1, ()))
            else
              some (((v2, ((0 : Int), ((0 : Int), (v16, ())))), ()), (r9.2.1, ()))
          else
            let v18 := ((v16).tmod (11 : Int))
            some (((v2, ((0 : Int), ((0 : Int), (v18, ())))), ()), (r9.2.1, ()))
        else
          if (v2 == (21 : Int)) = false then
            if (v2 == (22 : Int)) then
              let v19 := ((r9.1.1).tmod (11 : Int))
              some (((v2, ((0 : Int), ((0 : Int), (v19, ())))), ()), (r9.2.1, ()))
            else
              some (((v2, ((0 : Int), ((0 : Int), (r9.1.1, ())))), ()), (r9.2.1, ()))
          else
            let v20 := ((r9.1.1).tmod (11 : Int))
            some (((v2, ((0 : Int), ((0 : Int), (v20, ())))), ()), (r9.2.1, ()))
    else
      if r10.1.2.2.1 then
        if (leI v2 (11 : Int)) then
          let v21 := (((0 : Int)).tmod (16 : Int))
          if (v2 == (21 : Int)) = false then
            if (v2 == (22 : Int)) then
              let v22 := ((v21).tmod (11 : Int))
              some (((v2, ((0 : Int), (r4.1.1, (v22, ())))), ()), (r9.2.1, ()))
            else
              some (((v2, ((0 : Int), (r4.1.1, (v21, ())))), ()), (r9.2.1, ()))
          else
            let v23 := ((v21).tmod (11 : Int))
            some (((v2, ((0 : Int), (r4.1.1, (v23, ())))), ()), (r9.2.1, ()))
        else
          if (v2 == (21 : Int)) = false then
            if (v2 == (22 : Int)) then
              let v24 := (((0 : Int)).tmod (11 : Int))
              some (((v2, ((0 : Int), (r4.1.1, (v24, ())))), ()), (r9.2.1, ()))
            else
              some (((v2, ((0 : Int), (r4.1.1, ((0 : Int), ())))), ()), (r9.2.1, ()))
          else
            let v25 := (((0 : Int)).tmod (11 : Int))
            some (((v2, ((0 : Int), (r4.1.1, (v25, ())))), ()), (r9.2.1, ()))
      else
        if (leI v2 (11 : Int)) then
          let v26 := ((r9.1.1).tmod (16 : Int))
          if (v2 == (21 : Int)) = false then
            if (v2 == (22 : Int)) then
              let v27 := ((v26).tmod (11 : Int))
              some (((v2, ((0 : Int), (r4.1.1, (v27, ())))), ()), (r9.2.1, ()))
            else
              some (((v2, ((0 : Int), (r4.1.1, (v26, ())))), ()), (r9.2.1, ()))
          else
            let v28 := ((v26).tmod (11 : Int))
            some (((v2, ((0 : Int), (r4.1.1, (v28, ())))), ()), (r9.2.1, ()))
        else
          if (v2 == (21 : Int)) = false then
            if (v2 == (22 : Int)) then
              let v29 := ((r9.1.1).tmod (11 : Int))
              some (((v2, ((0 : Int), (r4.1.1, (v29, ())))), ()), (r9.2.1, ()))
            else
              some (((v2, ((0 : Int), (r4.1.1, (r9.1.1, ())))), ()), (r9.2.1, ()))
          else
            let v30 := ((r9.1.1).tmod (11 : Int))
            some (((v2, ((0 : Int), (r4.1.1, (v30, ())))), ()), (r9.2.1, ()))
  else
    if r10.1.2.1 then
      if r10.1.2.2.1 then
        if (leI v2 (11 : Int)) then
          let v31 := (((0 : Int)).tmod (16 : Int))
          if (v2 == (21 : Int)) = false then
            if (v2 == (22 : Int)) then
              let v32 := ((v31).tmod (11 : Int))
              some (((v2, (r3.1.1, ((0 : Int), (v32, ())))), ()), (r9.2.1, ()))
            else
              some (((v2, (r3.1.1, ((0 : Int), (v31, ())))), ()), (r9.2.1, ()))
          else
            let v33 := ((v31).tmod (11 : Int))
            some (((v2, (r3.1.1, ((0 : Int), (v33, ())))), ()), (r9.2.1, ()))
        else
          if (v2 == (21 : Int)) = false then
            if (v2 == (22 : Int)) then
              let v34 := (((0 : Int)).tmod (11 : Int))
              some (((v2, (r3.1.1, ((0 : Int), (v34, ())))), ()), (r9.2.1, ()))
            else
              some (((v2, (r3.1.1, ((0 : Int), ((0 : Int), ())))), ()), (r9.2.1, ()))
          else
            let v35 := (((0 : Int)).tmod (11 : Int))
            some (((v2, (r3.1.1, ((0 : Int), (v35, ())))), ()), (r9.2.1, ()))
      else
        if (leI v2 (11 : Int)) then
          let v36 := ((r9.1.1).tmod (16 : Int))
          if (v2 == (21 : Int)) = false then
            if (v2 == (22 : Int)) then
              let v37 := ((v36).tmod (11 : Int))
              some (((v2, (r3.1.1, ((0 : Int), (v37, ())))), ()), (r9.2.1, ()))
            else
              some (((v2, (r3.1.1, ((0 : Int), (v36, ())))), ()), (r9.2.1, ()))
          else
            let v38 := ((v36).tmod (11 : Int))
            some (((v2, (r3.1.1, ((0 : Int), (v38, ())))), ()), (r9.2.1, ()))
        else
          if (v2 == (21 : Int)) = false then
            if (v2 == (22 : Int)) then
              let v39 := ((r9.1.1).tmod (11 : Int))
              some (((v2, (r3.1.1, ((0 : Int), (v39, ())))), ()), (r9.2.1, ()))
            else
              some (((v2, (r3.1.1, ((0 : Int), (r9.1.1, ())))), ()), (r9.2.1, ()))
          else
            let v40 := ((r9.1.1).tmod (11 : Int))
            some (((v2, (r3.1.1, ((0 : Int), (v40, ())))), ()), (r9.2.1, ()))
    else
      if r10.1.2.2.1 then
        if (leI v2 (11 : Int)) then
          let v41 := (((0 : Int)).tmod (16 : Int))
          if (v2 == (21 : Int)) = false then
            if (v2 == (22 : Int)) then
              let v42 := ((v41).tmod (11 : Int))
              some (((v2, (r3.1.1, (r4.1.1, (v42, ())))), ()), (r9.2.1, ()))
            else
              some (((v2, (r3.1.1, (r4.1.1, (v41, ())))), ()), (r9.2.1, ()))
          else
            let v43 := ((v41).tmod (11 : Int))
            some (((v2, (r3.1.1, (r4.1.1, (v43, ())))), ()), (r9.2.1, ()))
        else
          if (v2 == (21 : Int)) = false then
            if (v2 == (22 : Int)) then
              let v44 := (((0 : Int)).tmod (11 : Int))
              some (((v2, (r3.1.1, (r4.1.1, (v44, ())))), ()), (r9.2.1, ()))
            else
              some (((v2, (r3.1.1, (r4.1.1, ((0 : Int), ())))), ()), (r9.2.1, ()))
          else
            let v45 := (((0 : Int)).tmod (11 : Int))
            some (((v2, (r3.1.1, (r4.1.1, (v45, ())))), ()), (r9.2.1, ()))
      else
        if (leI v2 (11 : Int)) then
          let v46 := ((r9.1.1).tmod (16 : Int))
          if (v2 == (21 : Int)) = false then
            if (v2 == (22 : Int)) then
              let v47 := ((v46).tmod (11 : Int))
              some (((v2, (r3.1.1, (r4.1.1, (v47, ())))), ()), (r9.2.1, ()))
            else
              some (((v2, (r3.1.1, (r4.1.1, (v46, ())))), ()), (r9.2.1, ()))
          else
            let v48 := ((v46).tmod (11 : Int))
            some (((v2, (r3.1.1, (r4.1.1, (v48, ())))), ()), (r9.2.1, ()))
        else
          if (v2 == (21 : Int)) = false then
            if (v2 == (22 : Int)) then
              let v49 := ((r9.1.1).tmod (11 : Int))
              some (((v2, (r3.1.1, (r4.1.1, (v49, ())))), ()), (r9.2.1, ()))
            else
              some (((v2, (r3.1.1, (r4.1.1, (r9.1.1, ())))), ()), (r9.2.1, ()))
          else
            let v50 := ((r9.1.1).tmod (11 : Int))
            some (((v2, (r3.1.1, (r4.1.1, (v50, ())))), ()), (r9.2.1, ()))
abbrev C_spec_l2Ins : Con := ⟨P_spec_l2Ins, R_spec_l2Ins, F_spec_l2Ins, false⟩
abbrev G_spec_l2Ins : Env := [(53, C_spec_l1Pick), (54, C_spec_l1Next), (270, C_spec_l2Bare)]
theorem g_spec_l2Ins : EnvOk Tryz.prog G_spec_l2Ins := (env_cons s_spec_l1Pick (env_cons s_spec_l1Next (env_cons s_spec_l2Bare env_nil)))
theorem r_spec_l2Ins (x) : runFn T G_spec_l2Ins [] Tryz.f260 P_spec_l2Ins R_spec_l2Ins x = F_spec_l2Ins x := by kernel_rfl
theorem s_spec_l2Ins : CallsOk Tryz.prog 260 C_spec_l2Ins :=
  fn_calls (L := []) hT g_spec_l2Ins Tryz.f260 (by kernel_rfl) (by kernel_rfl) (by kernel_rfl) (plain_ok (by kernel_rfl)) r_spec_l2Ins
/-! spec.l7Ins -/
abbrev P_spec_l7Ins : List PK := [.box [.dat Y22, .dat YI] [.dat Y22, .dat YI]]
abbrev R_spec_l7Ins : List VK := [.s (.dat Y42)]
def F_spec_l7Ins (x : denP P_spec_l7Ins) : Option (denV R_spec_l7Ins × denQ P_spec_l7Ins) :=
  (F_spec_l1Next (x.1, (3 : Int), ())).bind fun r1 =>
  let v2 := (IntKind.i64.wrap ((1 : Int) + r1.1.1))
  (F_spec_l1Next (r1.2.1, (14 : Int), ())).bind fun r3 =>
  if (r3.1.1 == (0 : Int)) then
    (F_spec_l1Next (r3.2.1, (4 : Int), ())).bind fun r4 =>
    (F_spec_l1Next (r4.2.1, (9 : Int), ())).bind fun r5 =>
    (F_spec_l1Next (r5.2.1, (8 : Int), ())).bind fun r6 =>
    let v7 := (IntKind.i64.wrap ((56 : Int) + r6.1.1))
    (F_spec_l1Next (r6.2.1, (16 : Int), ())).bind fun r8 =>
    let v9 := (IntKind.i64.wrap ((40 : Int) + r8.1.1))
    (F_spec_l1Pick (r8.2.1, [r5.1.1, v7, v9, (65535 : Int)], ())).bind fun r10 =>
    some ((((12 : Int), (v2, (r4.1.1, (r10.1.1, ())))), ()), (r10.2.1, ()))
  else
    if (r3.1.1 == (1 : Int)) then
      (F_spec_l1Next (r3.2.1, (4 : Int), ())).bind fun r11 =>
      (F_spec_l1Next (r11.2.1, (9 : Int), ())).bind fun r12 =>
      (F_spec_l1Next (r12.2.1, (8 : Int), ())).bind fun r13 =>
      let v14 := (IntKind.i64.wrap ((56 : Int) + r13.1.1))
      (F_spec_l1Next (r13.2.1, (16 : Int), ())).bind fun r15 =>
      let v16 := (IntKind.i64.wrap ((40 : Int) + r15.1.1))
      (F_spec_l1Pick (r15.2.1, [r12.1.1, v14, v16, (65535 : Int)], ())).bind fun r17 =>
      some ((((12 : Int), (v2, (r11.1.1, (r17.1.1, ())))), ()), (r17.2.1, ()))
    else
      if (r3.1.1 == (2 : Int)) then
        (F_spec_l1Next (r3.2.1, (4 : Int), ())).bind fun r18 =>
        (F_spec_l1Next (r18.2.1, (9 : Int), ())).bind fun r19 =>
        (F_spec_l1Next (r19.2.1, (8 : Int), ())).bind fun r20 =>
        let v21 := (IntKind.i64.wrap ((56 : Int) + r20.1.1))
        (F_spec_l1Next (r20.2.1, (16 : Int), ())).bind fun r22 =>
        let v23 := (IntKind.i64.wrap ((40 : Int) + r22.1.1))
        (F_spec_l1Pick (r22.2.1, [r19.1.1, v21, v23, (65535 : Int)], ())).bind fun r24 =>
        some ((((12 : Int), (v2, (r18.1.1, (r24.1.1, ())))), ()), (r24.2.1, ()))
      else
        if (r3.1.1 == (3 : Int)) then
          (F_spec_l1Next (r3.2.1, (11 : Int), ())).bind fun r25 =>
          let v26 := (IntKind.i64.wrap ((1 : Int) + r25.1.1))
          (F_spec_l1Next (r25.2.1, (4 : Int), ())).bind fun r27 =>
          (F_spec_l1Next (r27.2.1, (4 : Int), ())).bind fun r28 =>
          some (((v26, (v2, (r27.1.1, (r28.1.1, ())))), ()), (r28.2.1, ()))
        else
          if (r3.1.1 == (4 : Int)) then
            (F_spec_l1Next (r3.2.1, (4 : Int), ())).bind fun r29 =>
            (F_spec_l1Next (r29.2.1, (24 : Int), ())).bind fun r30 =>
            (F_spec_l1Next (r30.2.1, (16 : Int), ())).bind fun r31 =>
            let v32 := (IntKind.i64.wrap ((40 : Int) + r31.1.1))
            (F_spec_l1Next (r31.2.1, (6 : Int), ())).bind fun r33 =>
            let v34 := (IntKind.i64.wrap ((56 : Int) + r33.1.1))
            (F_spec_l1Pick (r33.2.1, [r30.1.1, v32, v34], ())).bind fun r35 =>
            some ((((15 : Int), (v2, (r29.1.1, (r35.1.1, ())))), ()), (r35.2.1, ()))
          else
            if (r3.1.1 == (5 : Int)) then
              (F_spec_l1Next (r3.2.1, (4 : Int), ())).bind fun r36 =>
              (F_spec_l1Next (r36.2.1, (24 : Int), ())).bind fun r37 =>
              (F_spec_l1Next (r37.2.1, (16 : Int), ())).bind fun r38 =>
              let v39 := (IntKind.i64.wrap ((40 : Int) + r38.1.1))
              (F_spec_l1Next (r38.2.1, (6 : Int), ())).bind fun r40 =>
              let v41 := (IntKind.i64.wrap ((56 : Int) + r40.1.1))
              (F_spec_l1Pick (r40.2.1, [r37.1.1, v39, v41], ())).bind fun r42 =>
              some ((((15 : Int), (v2, (r36.1.1, (r42.1.1, ())))), ()), (r42.2.1, ()))
            else
              if (r3.1.1 == (6 : Int)) then
                (F_spec_l1Next (r3.2.1, (4 : Int), ())).bind fun r43 =>
                (F_spec_l1Next (r43.2.1, (24 : Int), ())).bind fun r44 =>
                (F_spec_l1Next (r44.2.1, (16 : Int), ())).bind fun r45 =>
                let v46 := (IntKind.i64.wrap ((40 : Int) + r45.1.1))
                (F_spec_l1Next (r45.2.1, (6 : Int), ())).bind fun r47 =>
                let v48 := (IntKind.i64.wrap ((56 : Int) + r47.1.1))
                (F_spec_l1Pick (r47.2.1, [r44.1.1, v46, v48], ())).bind fun r49 =>
                some ((((14 : Int), (v2, (r43.1.1, (r49.1.1, ())))), ()), (r49.2.1, ()))
              else
                if (r3.1.1 == (7 : Int)) then
                  (F_spec_l1Next (r3.2.1, (4 : Int), ())).bind fun r50 =>
                  (F_spec_l1Next (r50.2.1, (24 : Int), ())).bind fun r51 =>
                  (F_spec_l1Next (r51.2.1, (16 : Int), ())).bind fun r52 =>
                  let v53 := (IntKind.i64.wrap ((40 : Int) + r52.1.1))
                  (F_spec_l1Next (r52.2.1, (6 : Int), ())).bind fun r54 =>
                  let v55 := (IntKind.i64.wrap ((56 : Int) + r54.1.1))
                  (F_spec_l1Pick (r54.2.1, [r51.1.1, v53, v55], ())).bind fun r56 =>
                  some ((((14 : Int), (v2, (r50.1.1, (r56.1.1, ())))), ()), (r56.2.1, ()))
                else
                  if (r3.1.1 == (8 : Int)) then
                    (F_spec_l1Pick (r3.2.1, [(16 : Int), (17 : Int), (18 : Int)], ())).bind fun r57 =>
                    (F_spec_l1Next (r57.2.1, (4 : Int), ())).bind fun r58 =>
                    (F_spec_l1Pick (r58.2.1, [(1 : Int), (2 : Int), (65535 : Int), (65533 : Int)], ())).bind fun r59 =>
                    some (((r57.1.1, (v2, (r58.1.1, (r59.1.1, ())))), ()), (r59.2.1, ()))
                  else
                    if (r3.1.1 == (9 : Int)) then
                      (F_spec_l1Pick (r3.2.1, [(0 : Int), (1 : Int), (7 : Int), (9 : Int), (10 : Int), (5 : Int), (6 : Int)], ())).bind fun r60 =>
                      some ((((22 : Int), ((0 : Int), (v2, (r60.1.1, ())))), ()), (r60.2.1, ()))
                    else
                      if (r3.1.1 == (10 : Int)) then
                        (F_spec_l1Next (r3.2.1, (11 : Int), ())).bind fun r61 =>
                        some ((((21 : Int), (v2, ((0 : Int), (r61.1.1, ())))), ()), (r61.2.1, ()))
                      else
                        if (r3.1.1 == (11 : Int)) then
                          (F_spec_l1Pick (r3.2.1, [(0 : Int), (5 : Int)], ())).bind fun r62 =>
                          (F_spec_l1Pick (r62.2.1, [(65534 : Int), (65530 : Int), (2 : Int)], ())).bind fun r63 =>
                          some ((((19 : Int), (r62.1.1, ((0 : Int), (r63.1.1, ())))), ()), (r63.2.1, ()))
                        else
                          (F_spec_l2Ins (r3.2.1, ())).bind fun r64 =>
                          some ((r64.1.1, ()), (r64.2.1, ()))
abbrev C_spec_l7Ins : Con := ⟨P_spec_l7Ins, R_spec_l7Ins, F_spec_l7Ins, false⟩
abbrev G_spec_l7Ins : Env := [(53, C_spec_l1Pick), (54, C_spec_l1Next), (260, C_spec_l2Ins)]
theorem g_spec_l7Ins : EnvOk Tryz.prog G_spec_l7Ins := (env_cons s_spec_l1Pick (env_cons s_spec_l1Next (env_cons s_spec_l2Ins env_nil)))
theorem r_spec_l7Ins (x) : runFn T G_spec_l7Ins [] Tryz.f212 P_spec_l7Ins R_spec_l7Ins x = F_spec_l7Ins x := by kernel_rfl
theorem s_spec_l7Ins : CallsOk Tryz.prog 212 C_spec_l7Ins :=
  fn_calls (L := []) hT g_spec_l7Ins Tryz.f212 (by kernel_rfl) (by kernel_rfl) (by kernel_rfl) (plain_ok (by kernel_rfl)) r_spec_l7Ins
/-! spec.InsFault -/
abbrev P_spec_InsFault : List PK := [.val Y42]
abbrev R_spec_InsFault : List VK := [.s (.dat YI)]
def F_spec_InsFault (x : denP P_spec_InsFault) : Option (denV R_spec_InsFault × denQ P_spec_InsFault) :=
  (F_spec_l1In (x.1.1, (1 : Int), (26 : Int), ())).bind fun r1 =>
  if (!r1.1.1) = false then
    (F_spec_l1In (x.1.2.1, (0 : Int), (15 : Int), ())).bind fun r2 =>
    if (!r2.1.1) = false then
      (F_spec_l1In (x.1.2.2.1, (0 : Int), (15 : Int), ())).bind fun r3 =>
      if (!r3.1.1) = false then
        (F_spec_l1In (x.1.2.2.2.1, (0 : Int), (65535 : Int), ())).bind fun r4 =>
        if (!r4.1.1) then
          some (((3 : Int), ()), ())
        else
          (F_spec_l2Bare (x.1.1, ())).bind fun r5 =>
          if r5.1.1 = true then
            if (x.1.2.1 != (0 : Int)) = false then
              if r5.1.2.1 = true then
                if (x.1.2.2.1 != (0 : Int)) = false then
                  if r5.1.2.2.1 = true then
                    if (x.1.2.2.2.1 != (0 : Int)) = false then
                      if (leI x.1.1 (11 : Int)) = true then
                        if (ltI (15 : Int) x.1.2.2.2.1) = false then
                          if (x.1.1 == (21 : Int)) = false then
                            if (x.1.1 == (22 : Int)) = true then
                              if (ltI (10 : Int) x.1.2.2.2.1) then
                                some (((1 : Int), ()), ())
                              else
                                some (((0 : Int), ()), ())
                            else
                              some (((0 : Int), ()), ())
                          else
                            if (ltI (10 : Int) x.1.2.2.2.1) then
                              some (((1 : Int), ()), ())
                            else
                              some (((0 : Int), ()), ())
                        else
                          some (((1 : Int), ()), ())
                      else
                        if (x.1.1 == (21 : Int)) = false then
                          if (x.1.1 == (22 : Int)) = true then
                            if (ltI (10 : Int) x.1.2.2.2.1) then
                              some (((1 : Int), ()), ())
                            else
                              some (((0 : Int), ()), ())
                          else
                            some (((0 : Int), ()), ())
                        else
                          if (ltI (10 : Int) x.1.2.2.2.1) then
                            some (((1 : Int), ()), ())
                          else
                            some (((0 : Int), ()), ())
                    else
                      some (((1 : Int), ()), ())
                  else
                    if (leI x.1.1 (11 : Int)) = true then
                      if (ltI (15 : Int) x.1.2.2.2.1) = false then
                        if (x.1.1 == (21 : Int)) = false then
                          if (x.1.1 == (22 : Int)) = true then
                            if (ltI (10 : Int) x.1.2.2.2.1) then
                              some (((1 : Int), ()), ())
                            else
                              some (((0 : Int), ()), ())
                          else
                            some (((0 : Int), ()), ())
                        else
                          if (ltI (10 : Int) x.1.2.2.2.1) then
                            some (((1 : Int), ()), ())
                          else
                            some (((0 : Int), ()), ())
                      else
                        some (((1 : Int), ()), ())
                    else
                      if (x.1.1 == (21 : Int)) = false then
                        if (x.1.1 == (22 : Int)) = true then
                          if (ltI (10 : Int) x.1.2.2.2.1) then
                            some (((1 : Int), ()), ())
                          else
                            some (((0 : Int), ()), ())
                        else
                          some (((0 : Int), ()), ())
                      else
                        if (ltI (10 : Int) x.1.2.2.2.1) then
                          some (((1 : Int), ()), ())
                        else
                          some (((0 : Int), ()), ())
                else
                  some (((1 : Int), ()), ())
              else
                if r5.1.2.2.1 = true then
                  if (x.1.2.2.2.1 != (0 : Int)) = false then
                    if (leI x.1.1 (11 : Int)) = true then
                      if (ltI (15 : Int) x.1.2.2.2.1) = false then
                        if (x.1.1 == (21 : Int)) = false then
                          if (x.1.1 == (22 : Int)) = true then
                            if (ltI (10 : Int) x.1.2.2.2.1) then
                              some (((1 : Int), ()), ())
                            else
                              some (((0 : Int), ()), ())
                          else
                            some (((0 : Int), ()), ())
                        else
                          if (ltI (10 : Int) x.1.2.2.2.1) then
                            some (((1 : Int), ()), ())
                          else
                            some (((0 : Int), ()), ())
                      else
                        some (((1 : Int), ()), ())
                    else
                      if (x.1.1 == (21 : Int)) = false then
                        if (x.1.1 == (22 : Int)) = true then
                          if (ltI (10 : Int) x.1.2.2.2.1) then
                            some (((1 : Int), ()), ())
                          else
                            some (((0 : Int), ()), ())
                        else
                          some (((0 : Int), ()), ())
                      else
                        if (ltI (10 : Int) x.1.2.2.2.1) then
                          some (((1 : Int), ()), ())
                        else
                          some (((0 : Int), ()), ())
                  else
                    some (((1 : Int), ()), ())
                else
                  if (leI x.1.1 (11 : Int)) = true then
                    if (ltI (15 : Int) x.1.2.2.2.1) = false then
                      if (x.1.1 == (21 : Int)) = false then
                        if (x.1.1 == (22 : Int)) = true then
                          if (ltI (10 : Int) x.1.2.2.2.1) then
                            some (((1 : Int), ()), ())
                          else
                            some (((0 : Int), ()), ())
                        else
                          some (((0 : Int), ()), ())
                      else
                        if (ltI (10 : Int) x.1.2.2.2.1) then
                          some (((1 : Int), ()), ())
                        else
                          some (((0 : Int), ()), ())
                    else
                      some (((1 : Int), ()), ())
                  else
                    if (x.1.1 == (21 : Int)) = false then
                      if (x.1.1 == (22 : Int)) = true then
                        if (ltI (10 : Int) x.1.2.2.2.1) then
                          some (((1 : Int), ()), ())
                        else
                          some (((0 : Int), ()), ())
                      else
                        some (((0 : Int), ()), ())
                    else
                      if (ltI (10 : Int) x.1.2.2.2.1) then
                        some (((1 : Int), ()), ())
                      else
                        some (((0 : Int), ()), ())
            else
              some (((1 : Int), ()), ())
          else
            if r5.1.2.1 = true then
              if (x.1.2.2.1 != (0 : Int)) = false then
                if r5.1.2.2.1 = true then
                  if (x.1.2.2.2.1 != (0 : Int)) = false then
                    if (leI x.1.1 (11 : Int)) = true then
                      if (ltI (15 : Int) x.1.2.2.2.1) = false then
                        if (x.1.1 == (21 : Int)) = false then
                          if (x.1.1 == (22 : Int)) = true then
                            if (ltI (10 : Int) x.1.2.2.2.1) then
                              some (((1 : Int), ()), ())
                            else
                              some (((0 : Int), ()), ())
                          else
                            some (((0 : Int), ()), ())
                        else
                          if (ltI (10 : Int) x.1.2.2.2.1) then
                            some (((1 : Int), ()), ())
                          else
                            some (((0 : Int), ()), ())
                      else
                        some (((1 : Int), ()), ())
                    else
                      if (x.1.1 == (21 : Int)) = false then
                        if (x.1.1 == (22 : Int)) = true then
                          if (ltI (10 : Int) x.1.2.2.2.1) then
                            some (((1 : Int), ()), ())
                          else
                            some (((0 : Int), ()), ())
                        else
                          some (((0 : Int), ()), ())
                      else
                        if (ltI (10 : Int) x.1.2.2.2.1) then
                          some (((1 : Int), ()), ())
                        else
                          some (((0 : Int), ()), ())
                  else
                    some (((1 : Int), ()), ())
                else
                  if (leI x.1.1 (11 : Int)) = true then
                    if (ltI (15 : Int) x.1.2.2.2.1) = false then
                      if (x.1.1 == (21 : Int)) = false then
                        if (x.1.1 == (22 : Int)) = true then
                          if (ltI (10 : Int) x.1.2.2.2.1) then
                            some (((1 : Int), ()), ())
                          else
                            some (((0 : Int), ()), ())
                        else
                          some (((0 : Int), ()), ())
                      else
                        if (ltI (10 : Int) x.1.2.2.2.1) then
                          some (((1 : Int), ()), ())
                        else
                          some (((0 : Int), ()), ())
                    else
                      some (((1 : Int), ()), ())
                  else
                    if (x.1.1 == (21 : Int)) = false then
                      if (x.1.1 == (22 : Int)) = true then
                        if (ltI (10 : Int) x.1.2.2.2.1) then
                          some (((1 : Int), ()), ())
                        else
                          some (((0 : Int), ()), ())
                      else
                        some (((0 : Int), ()), ())
                    else
                      if (ltI (10 : Int) x.1.2.2.2.1) then
                        some (((1 : Int), ()), ())
                      else
                        some (((0 : Int), ()), ())
              else
                some (((1 : Int), ()), ())
            else
              if r5.1.2.2.1 = true then
                if (x.1.2.2.2.1 != (0 : Int)) = false then
                  if (leI x.1.1 (11 : Int)) = true then
                    if (ltI (15 : Int) x.1.2.2.2.1) = false then
                      if (x.1.1 == (21 : Int)) = false then
                        if (x.1.1 == (22 : Int)) = true then
                          if (ltI (10 : Int) x.1.2.2.2.1) then
                            some (((1 : Int), ()), ())
                          else
                            some (((0 : Int), ()), ())
                        else
                          some (((0 : Int), ()), ())
                      else
                        if (ltI (10 : Int) x.1.2.2.2.1) then
                          some (((1 : Int), ()), ())
                        else
                          some (((0 : Int), ()), ())
                    else
                      some (((1 : Int), ()), ())
                  else
                    if (x.1.1 == (21 : Int)) = false then
                      if (x.1.1 == (22 : Int)) = true then
                        if (ltI (10 : Int) x.1.2.2.2.1) then
                          some (((1 : Int), ()), ())
                        else
                          some (((0 : Int), ()), ())
                      else
                        some (((0 : Int), ()), ())
                    else
                      if (ltI (10 : Int) x.1.2.2.2.1) then
                        some (((1 : Int), ()), ())
                      else
                        some (((0 : Int), ()), ())
                else
                  some (((1 : Int), ()), ())
              else
                if (leI x.1.1 (11 : Int)) = true then
                  if (ltI (15 : Int) x.1.2.2.2.1) = false then
                    if (x.1.1 == (21 : Int)) = false then
                      if (x.1.1 == (22 : Int)) = true then
                        if (ltI (10 : Int) x.1.2.2.2.1) then
                          some (((1 : Int), ()), ())
                        else
                          some (((0 : Int), ()), ())
                      else
                        some (((0 : Int), ()), ())
                    else
                      if (ltI (10 : Int) x.1.2.2.2.1) then
                        some (((1 : Int), ()), ())
                      else
                        some (((0 : Int), ()), ())
                  else
                    some (((1 : Int), ()), ())
                else
                  if (x.1.1 == (21 : Int)) = false then
                    if (x.1.1 == (22 : Int)) = true then
                      if (ltI (10 : Int) x.1.2.2.2.1) then
                        some (((1 : Int), ()), ())
                      else
                        some (((0 : Int), ()), ())
                    else
                      some (((0 : Int), ()), ())
                  else
                    if (ltI (10 : Int) x.1.2.2.2.1) then
                      some (((1 : Int), ()), ())
                    else
                      some (((0 : Int), ()), ())
      else
        some (((3 : Int), ()), ())
    else
      some (((3 : Int), ()), ())
  else
    some (((3 : Int), ()), ())
abbrev C_spec_InsFault : Con := ⟨P_spec_InsFault, R_spec_InsFault, F_spec_InsFault, false⟩
abbrev G_spec_InsFault : Env := [(59, C_spec_l1In), (270, C_spec_l2Bare)]
theorem g_spec_InsFault : EnvOk Tryz.prog G_spec_InsFault := (env_cons s_spec_l1In (env_cons s_spec_l2Bare env_nil))
theorem r_spec_InsFault (x) : runFn T G_spec_InsFault [] Tryz.f220 P_spec_InsFault R_spec_InsFault x = F_spec_InsFault x := by kernel_rfl
theorem s_spec_InsFault : CallsOk Tryz.prog 220 C_spec_InsFault :=
  fn_calls (L := []) hT g_spec_InsFault Tryz.f220 (by kernel_rfl) (by kernel_rfl) (by kernel_rfl) (plain_ok (by kernel_rfl)) r_spec_InsFault
/-! spec.EncodeIns -/
abbrev P_spec_EncodeIns : List PK := [.val Y42]
abbrev R_spec_EncodeIns : List VK := [.s (.dat Y40)]
def F_spec_EncodeIns (x : denP P_spec_EncodeIns) : Option (denV R_spec_EncodeIns × denQ P_spec_EncodeIns) :=
  (F_spec_InsFault (x.1, ())).bind fun r1 =>
  if (r1.1.1 != (0 : Int)) then
    some (((r1.1.1, ((0 : Int), ())), ()), ())
  else
    let v2 := (IntKind.i64.wrap (x.1.1 * 2 ^ 24))
    let v3 := (IntKind.i64.wrap (x.1.2.1 * 2 ^ 20))
    let v4 := (IntKind.i64.wrap (v2 + v3))
    let v5 := (IntKind.i64.wrap (x.1.2.2.1 * 2 ^ 16))
    let v6 := (IntKind.i64.wrap (v4 + v5))
    let v7 := (IntKind.i64.wrap (v6 + x.1.2.2.2.1))
    some ((((0 : Int), (v7, ())), ()), ())
abbrev C_spec_EncodeIns : Con := ⟨P_spec_EncodeIns, R_spec_EncodeIns, F_spec_EncodeIns, false⟩
abbrev G_spec_EncodeIns : Env := [(220, C_spec_InsFault)]
theorem g_spec_EncodeIns : EnvOk Tryz.prog G_spec_EncodeIns := (env_cons s_spec_InsFault env_nil)
theorem r_spec_EncodeIns (x) : runFn T G_spec_EncodeIns [] Tryz.f211 P_spec_EncodeIns R_spec_EncodeIns x = F_spec_EncodeIns x := by kernel_rfl
theorem s_spec_EncodeIns : CallsOk Tryz.prog 211 C_spec_EncodeIns :=
  fn_calls (L := []) hT g_spec_EncodeIns Tryz.f211 (by kernel_rfl) (by kernel_rfl) (by kernel_rfl) (plain_ok (by kernel_rfl)) r_spec_EncodeIns
/-! spec.l7Image -/
abbrev P_spec_l7Image : List PK := [.box [.dat Y22, .dat YI] [.dat Y22, .dat YI], .val YI]
abbrev R_spec_l7Image : List VK := [.s (.own 2 YI)]
abbrev i_spec_l7Image_2 : Shp := { slots := [(0, .s (.ptr 9000000 0)), (1, .s (.dat YI)), (5, .s (.own 2 YI))], boxes := [(9000000, [.dat Y22, .dat YI])], rows := [] }
abbrev o_spec_l7Image_2 : List (Ex × Shp) := [(.exit 0, { slots := [(5, .s (.own 2 YI))], boxes := [(9000000, [.dat Y22, .dat YI])], rows := [] })]
def l_spec_l7Image_2 (rec : i_spec_l7Image_2.den → Option (denO o_spec_l7Image_2)) (u2 : i_spec_l7Image_2.den) : Option (denO o_spec_l7Image_2) :=
  if (ltI (0 : Int) u2.1.2.1) then
    (F_spec_l7Ins (u2.2.1.1, ())).bind fun r5 =>
    (F_spec_EncodeIns (r5.1.1, ())).bind fun r6 =>
    (F_spec_l1Chance (r5.2.1, (20 : Int), ())).bind fun r7 =>
    if r7.1.1 then
      (F_spec_l1Word (r7.2.1, ())).bind fun r8 =>
      if (u2.1.2.2.1.length + [r8.1.1].length) * 8 ≤ 140737488355328 then
        let v9 := (u2.1.2.2.1 ++ [r8.1.1])
        let v10 := (IntKind.i64.wrap (u2.1.2.1 - (1 : Int)))
        rec (((), (v10, (v9, ()))), ((r8.2.1, ()), ()))
      else none
    else
      if (u2.1.2.2.1.length + [r6.1.1.2.1].length) * 8 ≤ 140737488355328 then
        let v11 := (u2.1.2.2.1 ++ [r6.1.1.2.1])
        let v12 := (IntKind.i64.wrap (u2.1.2.1 - (1 : Int)))
        rec (((), (v12, (v11, ()))), ((r7.2.1, ()), ()))
      else none
  else
    some (.inl ((u2.1.2.2.1, ()), ((u2.2.1.1, ()), ())))
def L_spec_l7Image_2 (x : i_spec_l7Image_2.den) : Option (denO o_spec_l7Image_2) := iterF l_spec_l7Image_2 lots x
def F_spec_l7Image (x : denP P_spec_l7Image) : Option (denV R_spec_l7Image × denQ P_spec_l7Image) :=
  (L_spec_l7Image_2 (((), (x.2.1, (([] : List (den YI)), ()))), ((x.1, ()), ()))).bind fun z13 =>
  match z13 with
  | .inl x14 =>
    some ((x14.1.1, ()), (x14.2.1.1, ()))
  | .inr z13_ =>
    none
abbrev C_spec_l7Image : Con := ⟨P_spec_l7Image, R_spec_l7Image, F_spec_l7Image, false⟩
abbrev G_spec_l7Image : Env := [(132, C_spec_l1Chance), (211, C_spec_EncodeIns), (212, C_spec_l7Ins), (213, C_spec_l1Word)]
theorem g_spec_l7Image : EnvOk Tryz.prog G_spec_l7Image := (env_cons s_spec_l1Chance (env_cons s_spec_EncodeIns (env_cons s_spec_l7Ins (env_cons s_spec_l1Word env_nil))))
abbrev c_spec_l7Image_2 : Cut := ⟨i_spec_l7Image_2, o_spec_l7Image_2, fun x => iterF l_spec_l7Image_2 lots x⟩
theorem t_spec_l7Image_2 (rec x) : run T G_spec_l7Image [] (nav Tryz.f134 [1, 1, 0, 0, 0]) (mk 25 i_spec_l7Image_2 x) (loopK i_spec_l7Image_2 o_spec_l7Image_2 rec) = l_spec_l7Image_2 rec x := by kernel_rfl
theorem k_spec_l7Image_2 : CutOk Tryz.prog 25 (.loop (nav Tryz.f134 [1, 1, 0, 0, 0])) c_spec_l7Image_2 :=
  loop_cut (L := []) hT g_spec_l7Image t_spec_l7Image_2 (plain_ok (by kernel_rfl)) _
theorem r_spec_l7Image (x) : runFn T G_spec_l7Image [(2, c_spec_l7Image_2)] Tryz.f134 P_spec_l7Image R_spec_l7Image x = F_spec_l7Image x := by kernel_rfl
theorem s_spec_l7Image : CallsOk Tryz.prog 134 C_spec_l7Image :=
  fn_calls (L := [(2, c_spec_l7Image_2)]) hT g_spec_l7Image Tryz.f134 (by kernel_rfl) (by kernel_rfl) (by kernel_rfl) (seq_ok (plain_ok (by kernel_rfl)) (seq_ok (plain_ok (by kernel_rfl)) (seq_ok (block_ok (by kernel_rfl) (loop_ok (by kernel_rfl) k_spec_l7Image_2)) (plain_ok (by kernel_rfl))))) r_spec_l7Image
/-! spec.l3Memory -/
abbrev P_spec_l3Memory : List PK := [.box [.dat Y22, .dat YI] [.dat Y22, .dat YI]]
abbrev R_spec_l3Memory : List VK := [.s (.dat Y24)]
abbrev i_spec_l3Memory_3 : Shp := { slots := [(0, .s (.ptr 9000000 0)), (3, .s (.own 2 YI)), (4, .s (.dat YI))], boxes := [(9000000, [.dat Y22, .dat YI])], rows := [] }
abbrev o_spec_l3Memory_3 : List (Ex × Shp) := [(.exit 0, { slots := [(0, .s (.ptr 9000000 0)), (3, .s (.own 2 YI))], boxes := [(9000000, [.dat Y22, .dat YI])], rows := [] })]
def l_spec_l3Memory_3 (rec : i_spec_l3Memory_3.den → Option (denO o_spec_l3Memory_3)) (u3 : i_spec_l3Memory_3.den) : Option (denO o_spec_l3Memory_3) :=
  let v7 := ((u3.1.2.1.length : Nat) : Int)
  if (ltI u3.1.2.2.1 v7) then
    (F_spec_l1Chance (u3.2.1.1, (3 : Int), ())).bind fun r8 =>
    if r8.1.1 then
      (F_spec_l1Word (r8.2.1, ())).bind fun r9 =>
      if 0 ≤ u3.1.2.2.1 ∧ u3.1.2.2.1 < ((u3.1.2.1.length : Nat) : Int) then
        ((u3.1.2.1)[(u3.1.2.2.1).toNat]?).bind fun y10 =>
        let v11 := (u3.1.2.1.set (u3.1.2.2.1).toNat r9.1.1)
        let v12 := (IntKind.i64.wrap (u3.1.2.2.1 + (1 : Int)))
        rec (((), (v11, (v12, ()))), ((r9.2.1, ()), ()))
      else none
    else
      let v13 := (IntKind.i64.wrap (u3.1.2.2.1 + (1 : Int)))
      rec (((), (u3.1.2.1, (v13, ()))), ((r8.2.1, ()), ()))
  else
    some (.inl (((), (u3.1.2.1, ())), ((u3.2.1.1, ()), ())))
def L_spec_l3Memory_3 (x : i_spec_l3Memory_3.den) : Option (denO o_spec_l3Memory_3) := iterF l_spec_l3Memory_3 lots x
def F_spec_l3Memory (x : denP P_spec_l3Memory) : Option (denV R_spec_l3Memory × denQ P_spec_l3Memory) :=
  (F_spec_l1Next (x.1, (5 : Int), ())).bind fun r1 =>
  let v2 := (IntKind.i64.wrap ((1 : Int) + r1.1.1))
  (F_spec_NewMemory (v2, ())).bind fun r3 =>
  (L_spec_l3Memory_3 (((), (r3.1.1.2.1, ((0 : Int), ()))), ((r1.2.1, ()), ()))).bind fun z14 =>
  match z14 with
  | .inl x15 =>
    (F_spec_l1Next (x15.2.1.1, (16 : Int), ())).bind fun r16 =>
    if (r16.1.1 == (0 : Int)) then
      if 0 ≤ (1 : Int) ∧ (1 : Int) ≤ ((x15.1.2.1.length : Nat) : Int) ∧ ((x15.1.2.1.length : Nat) : Int) ≤ ((x15.1.2.1.length : Nat) : Int) then
        some ((((x15.1.2.1.drop (0 + ((1 : Int)).toNat)).take ((((x15.1.2.1.length : Nat) : Int)).toNat - ((1 : Int)).toNat)), ()), (r16.2.1, ()))
      else none
    else
      if (r16.1.1 == (1 : Int)) then
        let v17 := ((x15.1.2.1.length : Nat) : Int)
        (F_spec_l1Next (r16.2.1, v17, ())).bind fun r18 =>
        (F_spec_l1Pick (r18.2.1, [(-1 : Int), (4294967296 : Int)], ())).bind fun r19 =>
        if 0 ≤ r18.1.1 ∧ r18.1.1 < ((x15.1.2.1.length : Nat) : Int) then
          ((x15.1.2.1)[(r18.1.1).toNat]?).bind fun y20 =>
          let v21 := (x15.1.2.1.set (r18.1.1).toNat r19.1.1)
          some ((v21, ()), (r19.2.1, ()))
        else none
      else
        if (r16.1.1 == (2 : Int)) then
          some (((List.replicate ((200 : Int)).toNat (zeroD YI)), ()), (r16.2.1, ()))
        else
          some ((x15.1.2.1, ()), (r16.2.1, ()))
  | .inr z14_ =>
    none
abbrev C_spec_l3Memory : Con := ⟨P_spec_l3Memory, R_spec_l3Memory, F_spec_l3Memory, false⟩
abbrev G_spec_l3Memory : Env := [(53, C_spec_l1Pick), (54, C_spec_l1Next), (132, C_spec_l1Chance), (133, C_spec_NewMemory), (213, C_spec_l1Word)]
theorem g_spec_l3Memory : EnvOk Tryz.prog G_spec_l3Memory := (env_cons s_spec_l1Pick (env_cons s_spec_l1Next (env_cons s_spec_l1Chance (env_cons s_spec_NewMemory (env_cons s_spec_l1Word env_nil)))))
abbrev c_spec_l3Memory_3 : Cut := ⟨i_spec_l3Memory_3, o_spec_l3Memory_3, fun x => iterF l_spec_l3Memory_3 lots x⟩
theorem t_spec_l3Memory_3 (rec x) : run T G_spec_l3Memory [] (nav Tryz.f135 [1, 1, 0, 1, 0, 0]) (mk 44 i_spec_l3Memory_3 x) (loopK i_spec_l3Memory_3 o_spec_l3Memory_3 rec) = l_spec_l3Memory_3 rec x := by kernel_rfl
theorem k_spec_l3Memory_3 : CutOk Tryz.prog 44 (.loop (nav Tryz.f135 [1, 1, 0, 1, 0, 0])) c_spec_l3Memory_3 :=
  loop_cut (L := []) hT g_spec_l3Memory t_spec_l3Memory_3 (plain_ok (by kernel_rfl)) _
theorem r_spec_l3Memory (x) : runFn T G_spec_l3Memory [(3, c_spec_l3Memory_3)] Tryz.f135 P_spec_l3Memory R_spec_l3Memory x = F_spec_l3Memory x := by kernel_rfl
theorem s_spec_l3Memory : CallsOk Tryz.prog 135 C_spec_l3Memory :=
  fn_calls (L := [(3, c_spec_l3Memory_3)]) hT g_spec_l3Memory Tryz.f135 (by kernel_rfl) (by kernel_rfl) (by kernel_rfl) (seq_ok (plain_ok (by kernel_rfl)) (seq_ok (plain_ok (by kernel_rfl)) (seq_ok (seq_ok (plain_ok (by kernel_rfl)) (block_ok (by kernel_rfl) (loop_ok (by kernel_rfl) k_spec_l3Memory_3))) (plain_ok (by kernel_rfl))))) r_spec_l3Memory
/-! spec.l10World -/
abbrev P_spec_l10World : List PK := [.box [.dat Y22, .dat YI] [.dat Y22, .dat YI]]
abbrev R_spec_l10World : List VK := [.g [.dat Y24, .dat YI, .own 2 YI, .dat .bool, .dat .bool, .dat .bool, .dat YI, .dat Y24, .own 2 YI], .s (.dat Y27), .s (.dat Y24)]
abbrev i_spec_l10World_16 : Shp := { slots := [(0, .s (.ptr 9000000 0)), (2, .s (.ptr 2 0)), (5, .s (.ptr 5 0)), (6, .s (.vw 41 Y40)), (8, .s (.own 2 YI)), (11, .s (.dat YI))], boxes := [(2, [.own 2 YI, .dat YI, .own 2 YI, .dat .bool, .dat .bool, .dat .bool, .dat YI, .own 2 YI, .own 2 YI]), (5, [.dat Y24, .dat YI, .own 2 YI, .dat .bool, .dat .bool, .dat .bool, .dat YI, .dat Y24, .own 2 YI]), (9000000, [.dat Y22, .dat YI])], rows := [] }
abbrev o_spec_l10World_16 : List (Ex × Shp) := [(.exit 4, { slots := [(0, .s (.ptr 9000000 0)), (2, .s (.ptr 2 0)), (5, .s (.ptr 5 0)), (6, .s (.vw 41 Y40)), (8, .s (.own 2 YI))], boxes := [(2, [.own 2 YI, .dat YI, .own 2 YI, .dat .bool, .dat .bool, .dat .bool, .dat YI, .own 2 YI, .own 2 YI]), (5, [.dat Y24, .dat YI, .own 2 YI, .dat .bool, .dat .bool, .dat .bool, .dat YI, .dat Y24, .own 2 YI]), (9000000, [.dat Y22, .dat YI])], rows := [] })]
def l_spec_l10World_16 (rec : i_spec_l10World_16.den → Option (denO o_spec_l10World_16)) (u16 : i_spec_l10World_16.den) : Option (denO o_spec_l10World_16) :=
  if (ltI u16.1.2.2.2.2.2.1 (8 : Int)) then
    let v27 := (IntKind.i64.wrap ((8 : Int) + u16.1.2.2.2.2.2.1))
    (F_spec_l1Next (u16.2.1.2.2.1, (9 : Int), ())).bind fun r28 =>
    let v29 := (IntKind.i64.wrap ((8 : Int) * r28.1.1))
    (F_spec_l1Next (r28.2.1, (8 : Int), ())).bind fun r30 =>
    let v31 := (IntKind.i64.wrap (v29 + r30.1.1))
    if 0 ≤ v27 ∧ v27 < ((u16.1.2.2.2.2.1.length : Nat) : Int) then
      ((u16.1.2.2.2.2.1)[(v27).toNat]?).bind fun y32 =>
      let v33 := (u16.1.2.2.2.2.1.set (v27).toNat v31)
      let v34 := (IntKind.i64.wrap (u16.1.2.2.2.2.2.1 + (1 : Int)))
      rec (((), ((), ((), ((u16.1.2.2.2.1.1, (u16.1.2.2.2.1.2.1, u16.1.2.2.2.1.2.2)), (v33, (v34, ())))))), ((u16.2.1.1, (u16.2.1.2.1, (r30.2.1, ()))), ()))
    else none
  else
    some (.inl (((), ((), ((), ((u16.1.2.2.2.1.1, (u16.1.2.2.2.1.2.1, u16.1.2.2.2.1.2.2)), (u16.1.2.2.2.2.1, ()))))), ((u16.2.1.1, (u16.2.1.2.1, (u16.2.1.2.2.1, ()))), ())))
def L_spec_l10World_16 (x : i_spec_l10World_16.den) : Option (denO o_spec_l10World_16) := iterF l_spec_l10World_16 lots x
abbrev i_spec_l10World_11 : Shp := { slots := [(0, .s (.ptr 9000000 0)), (2, .s (.ptr 2 0)), (5, .s (.ptr 5 0)), (6, .s (.vw 41 Y40)), (8, .s (.own 2 YI)), (9, .s (.own 2 YI)), (10, .s (.dat YI))], boxes := [(2, [.own 2 YI, .dat YI, .own 2 YI, .dat .bool, .dat .bool, .dat .bool, .dat YI, .own 2 YI, .own 2 YI]), (5, [.dat Y24, .dat YI, .own 2 YI, .dat .bool, .dat .bool, .dat .bool, .dat YI, .dat Y24, .own 2 YI]), (9000000, [.dat Y22, .dat YI])], rows := [] }
abbrev o_spec_l10World_11 : List (Ex × Shp) := [(.exit 2, { slots := [(0, .s (.ptr 9000000 0)), (2, .s (.ptr 2 0)), (5, .s (.ptr 5 0)), (6, .s (.vw 41 Y40)), (8, .s (.own 2 YI))], boxes := [(2, [.own 2 YI, .dat YI, .own 2 YI, .dat .bool, .dat .bool, .dat .bool, .dat YI, .own 2 YI, .own 2 YI]), (5, [.dat Y24, .dat YI, .own 2 YI, .dat .bool, .dat .bool, .dat .bool, .dat YI, .dat Y24, .own 2 YI]), (9000000, [.dat Y22, .dat YI])], rows := [] })]
def l_spec_l10World_11 (rec : i_spec_l10World_11.den → Option (denO o_spec_l10World_11)) (u11 : i_spec_l10World_11.den) : Option (denO o_spec_l10World_11) :=
  let v16 := ((u11.1.2.2.2.2.2.1.length : Nat) : Int)
  if (ltI u11.1.2.2.2.2.2.2.1 v16) then
    if 0 ≤ u11.1.2.2.2.2.2.2.1 ∧ u11.1.2.2.2.2.2.2.1 < ((u11.1.2.2.2.2.2.1.length : Nat) : Int) then
      ((u11.1.2.2.2.2.2.1)[(u11.1.2.2.2.2.2.2.1).toNat]?).bind fun y17 =>
      if 0 ≤ u11.1.2.2.2.2.2.2.1 ∧ u11.1.2.2.2.2.2.2.1 < ((u11.1.2.2.2.2.1.length : Nat) : Int) then
        ((u11.1.2.2.2.2.1)[(u11.1.2.2.2.2.2.2.1).toNat]?).bind fun y18 =>
        let v19 := (u11.1.2.2.2.2.1.set (u11.1.2.2.2.2.2.2.1).toNat y17)
        let v20 := (IntKind.i64.wrap (u11.1.2.2.2.2.2.2.1 + (1 : Int)))
        rec (((), ((), ((), ((u11.1.2.2.2.1.1, (u11.1.2.2.2.1.2.1, u11.1.2.2.2.1.2.2)), (v19, (u11.1.2.2.2.2.2.1, (v20, ()))))))), ((u11.2.1.1, (u11.2.1.2.1, (u11.2.1.2.2.1, ()))), ()))
      else none
    else none
  else
    some (.inl (((), ((), ((), ((u11.1.2.2.2.1.1, (u11.1.2.2.2.1.2.1, u11.1.2.2.2.1.2.2)), (u11.1.2.2.2.2.1, ()))))), ((u11.2.1.1, (u11.2.1.2.1, (u11.2.1.2.2.1, ()))), ())))
def L_spec_l10World_11 (x : i_spec_l10World_11.den) : Option (denO o_spec_l10World_11) := iterF l_spec_l10World_11 lots x
abbrev i_spec_l10World_5 : Shp := { slots := [(0, .s (.ptr 9000000 0)), (2, .s (.ptr 2 0)), (5, .s (.ptr 5 0)), (6, .s (.vw 41 Y40)), (7, .s (.dat YI))], boxes := [(2, [.own 2 YI, .dat YI, .own 2 YI, .dat .bool, .dat .bool, .dat .bool, .dat YI, .own 2 YI, .own 2 YI]), (5, [.dat Y24, .dat YI, .own 2 YI, .dat .bool, .dat .bool, .dat .bool, .dat YI, .dat Y24, .own 2 YI]), (9000000, [.dat Y22, .dat YI])], rows := [] }
abbrev o_spec_l10World_5 : List (Ex × Shp) := [(.exit 0, { slots := [(0, .s (.ptr 9000000 0)), (2, .s (.ptr 2 0)), (5, .s (.ptr 5 0)), (6, .s (.vw 41 Y40))], boxes := [(2, [.own 2 YI, .dat YI, .own 2 YI, .dat .bool, .dat .bool, .dat .bool, .dat YI, .own 2 YI, .own 2 YI]), (5, [.dat Y24, .dat YI, .own 2 YI, .dat .bool, .dat .bool, .dat .bool, .dat YI, .dat Y24, .own 2 YI]), (9000000, [.dat Y22, .dat YI])], rows := [] })]
def l_spec_l10World_5 (rec : i_spec_l10World_5.den → Option (denO o_spec_l10World_5)) (u5 : i_spec_l10World_5.den) : Option (denO o_spec_l10World_5) :=
  if (ltI u5.1.2.2.2.2.1 (5 : Int)) then
    let v5 := ((u5.1.2.2.2.1.2.2 : Nat) : Int)
    if v5 = 0 then none else
    let v6 := ((u5.1.2.2.2.2.1).tmod v5)
    if 0 ≤ v6 ∧ v6 < ((u5.1.2.2.2.1.2.2 : Nat) : Int) then
      ((u5.1.2.2.2.1.1)[(u5.1.2.2.2.1.2.1 + (v6).toNat)]?).bind fun y7 =>
      let v8 := (u5.1.2.2.2.1.1.set (u5.1.2.2.2.1.2.1 + (v6).toNat) (u5.1.2.2.2.2.1, ((7 : Int), ())))
      let v9 := (IntKind.i64.wrap (u5.1.2.2.2.2.1 + (1 : Int)))
      rec (((), ((), ((), ((v8, (u5.1.2.2.2.1.2.1, u5.1.2.2.2.1.2.2)), (v9, ()))))), ((u5.2.1.1, (u5.2.1.2.1, (u5.2.1.2.2.1, ()))), ()))
    else none
  else
    some (.inl (((), ((), ((), ((u5.1.2.2.2.1.1, (u5.1.2.2.2.1.2.1, u5.1.2.2.2.1.2.2)), ())))), ((u5.2.1.1, (u5.2.1.2.1, (u5.2.1.2.2.1, ()))), ())))
def L_spec_l10World_5 (x : i_spec_l10World_5.den) : Option (denO o_spec_l10World_5) := iterF l_spec_l10World_5 lots x
def F_spec_l10World (x : denP P_spec_l10World) : Option (denV R_spec_l10World × denQ P_spec_l10World) :=
  (F_spec_l8Bent (x.1, ())).bind fun r1 =>
  (F_spec_l4Bent (r1.2.1, (6 : Int), ())).bind fun r2 =>
  (F_spec_l1Chance (r2.2.1, (3 : Int), ())).bind fun r3 =>
  if (!r3.1.1) then
    (L_spec_l10World_5 (((), ((), ((), ((r2.1.1.1, (r2.1.1.2.1, r2.1.1.2.2)), ((0 : Int), ()))))), (((([] : List (den YI)), ((0 : Int), (([] : List (den YI)), (false, (false, (false, ((0 : Int), (([] : List (den YI)), (([] : List (den YI)), ()))))))))), (r1.1.1, (r3.2.1, ()))), ()))).bind fun z10 =>
    match z10 with
    | .inl x11 =>
      (F_spec_NewMemory ((6 : Int), ())).bind fun r12 =>
      (F_spec_l7Image (x11.2.1.2.2.1, (40 : Int), ())).bind fun r13 =>
      (L_spec_l10World_11 (((), ((), ((), ((x11.1.2.2.2.1.1, (x11.1.2.2.2.1.2.1, x11.1.2.2.2.1.2.2)), (r12.1.1.2.1, (r13.1.1, ((0 : Int), ()))))))), ((x11.2.1.1, (x11.2.1.2.1, (r13.2.1, ()))), ()))).bind fun z21 =>
      match z21 with
      | .inl x22 =>
        (F_spec_l1Chance (x22.2.1.2.2.1, (4 : Int), ())).bind fun r23 =>
        if r23.1.1 then
          (L_spec_l10World_16 (((), ((), ((), ((x22.1.2.2.2.1.1, (x22.1.2.2.2.1.2.1, x22.1.2.2.2.1.2.2)), (x22.1.2.2.2.2.1, ((0 : Int), ())))))), ((x22.2.1.1, (x22.2.1.2.1, (r23.2.1, ()))), ()))).bind fun z35 =>
          match z35 with
          | .inl x36 =>
            let v37 := ((x36.2.1.2.1.2.2.1.length : Nat) : Int)
            if (v37 == (11 : Int)) then
              if 0 ≤ (10 : Int) ∧ (10 : Int) < ((x36.2.1.2.1.2.2.1.length : Nat) : Int) then
                ((x36.2.1.2.1.2.2.1)[((10 : Int)).toNat]?).bind fun y38 =>
                let v39 := (x36.2.1.2.1.2.2.1.set ((10 : Int)).toNat (2 : Int))
                (F_spec_l1Chance (x36.2.1.2.2.1, (20 : Int), ())).bind fun r40 =>
                if r40.1.1 then
                  (F_spec_l3Memory (r40.2.1, ())).bind fun r41 =>
                  some (((x36.2.1.2.1.1, (x36.2.1.2.1.2.1, (v39, (x36.2.1.2.1.2.2.2.1, (x36.2.1.2.1.2.2.2.2.1, (x36.2.1.2.1.2.2.2.2.2.1, (x36.2.1.2.1.2.2.2.2.2.2.1, (x36.2.1.2.1.2.2.2.2.2.2.2.1, (x36.2.1.2.1.2.2.2.2.2.2.2.2.1, ()))))))))), ((x36.1.2.2.2.1.1.drop x36.1.2.2.2.1.2.1).take x36.1.2.2.2.1.2.2), r41.1.1, ()), (r41.2.1, ()))
                else
                  some (((x36.2.1.2.1.1, (x36.2.1.2.1.2.1, (v39, (x36.2.1.2.1.2.2.2.1, (x36.2.1.2.1.2.2.2.2.1, (x36.2.1.2.1.2.2.2.2.2.1, (x36.2.1.2.1.2.2.2.2.2.2.1, (x36.2.1.2.1.2.2.2.2.2.2.2.1, (x36.2.1.2.1.2.2.2.2.2.2.2.2.1, ()))))))))), ((x36.1.2.2.2.1.1.drop x36.1.2.2.2.1.2.1).take x36.1.2.2.2.1.2.2), x36.1.2.2.2.2.1, ()), (r40.2.1, ()))
              else none
            else
              (F_spec_l1Chance (x36.2.1.2.2.1, (20 : Int), ())).bind fun r42 =>
              if r42.1.1 then
                (F_spec_l3Memory (r42.2.1, ())).bind fun r43 =>
                some ((x36.2.1.2.1, ((x36.1.2.2.2.1.1.drop x36.1.2.2.2.1.2.1).take x36.1.2.2.2.1.2.2), r43.1.1, ()), (r43.2.1, ()))
              else
                some ((x36.2.1.2.1, ((x36.1.2.2.2.1.1.drop x36.1.2.2.2.1.2.1).take x36.1.2.2.2.1.2.2), x36.1.2.2.2.2.1, ()), (r42.2.1, ()))
          | .inr z35_ =>
            none
        else
          (F_spec_l1Chance (r23.2.1, (20 : Int), ())).bind fun r44 =>
          if r44.1.1 then
            (F_spec_l3Memory (r44.2.1, ())).bind fun r45 =>
            some ((x22.2.1.2.1, ((x22.1.2.2.2.1.1.drop x22.1.2.2.2.1.2.1).take x22.1.2.2.2.1.2.2), r45.1.1, ()), (r45.2.1, ()))
          else
            some ((x22.2.1.2.1, ((x22.1.2.2.2.1.1.drop x22.1.2.2.2.1.2.1).take x22.1.2.2.2.1.2.2), x22.1.2.2.2.2.1, ()), (r44.2.1, ()))
      | .inr z21_ =>
        none
    | .inr z10_ =>
      none
  else
    (F_spec_NewMemory ((6 : Int), ())).bind fun r46 =>
    (F_spec_l7Image (r3.2.1, (40 : Int), ())).bind fun r47 =>
    (L_spec_l10World_11 (((), ((), ((), ((r2.1.1.1, (r2.1.1.2.1, r2.1.1.2.2)), (r46.1.1.2.1, (r47.1.1, ((0 : Int), ()))))))), (((([] : List (den YI)), ((0 : Int), (([] : List (den YI)), (false, (false, (false, ((0 : Int), (([] : List (den YI)), (([] : List (den YI)), ()))))))))), (r1.1.1, (r47.2.1, ()))), ()))).bind fun z48 =>
    match z48 with
    | .inl x49 =>
      (F_spec_l1Chance (x49.2.1.2.2.1, (4 : Int), ())).bind fun r50 =>
      if r50.1.1 then
        (L_spec_l10World_16 (((), ((), ((), ((x49.1.2.2.2.1.1, (x49.1.2.2.2.1.2.1, x49.1.2.2.2.1.2.2)), (x49.1.2.2.2.2.1, ((0 : Int), ())))))), ((x49.2.1.1, (x49.2.1.2.1, (r50.2.1, ()))), ()))).bind fun z51 =>
        match z51 with
        | .inl x52 =>
          let v53 := ((x52.2.1.2.1.2.2.1.length : Nat) : Int)
          if (v53 == (11 : Int)) then
            if 0 ≤ (10 : Int) ∧ (10 : Int) < ((x52.2.1.2.1.2.2.1.length : Nat) : Int) then
              ((x52.2.1.2.1.2.2.1)[((10 : Int)).toNat]?).bind fun y54 =>
              let v55 := (x52.2.1.2.1.2.2.1.set ((10 : Int)).toNat (2 : Int))
              (F_spec_l1Chance (x52.2.1.2.2.1, (20 : Int), ())).bind fun r56 =>
              if r56.1.1 then
                (F_spec_l3Memory (r56.2.1, ())).bind fun r57 =>
                some (((x52.2.1.2.1.1, (x52.2.1.2.1.2.1, (v55, (x52.2.1.2.1.2.2.2.1, (x52.2.1.2.1.2.2.2.2.1, (x52.2.1.2.1.2.2.2.2.2.1, (x52.2.1.2.1.2.2.2.2.2.2.1, (x52.2.1.2.1.2.2.2.2.2.2.2.1, (x52.2.1.2.1.2.2.2.2.2.2.2.2.1, ()))))))))), ((x52.1.2.2.2.1.1.drop x52.1.2.2.2.1.2.1).take x52.1.2.2.2.1.2.2), r57.1.1, ()), (r57.2.1, ()))
              else
                some (((x52.2.1.2.1.1, (x52.2.1.2.1.2.1, (v55, (x52.2.1.2.1.2.2.2.1, (x52.2.1.2.1.2.2.2.2.1, (x52.2.1.2.1.2.2.2.2.2.1, (x52.2.1.2.1.2.2.2.2.2.2.1, (x52.2.1.2.1.2.2.2.2.2.2.2.1, (x52.2.1.2.1.2.2.2.2.2.2.2.2.1, ()))))))))), ((x52.1.2.2.2.1.1.drop x52.1.2.2.2.1.2.1).take x52.1.2.2.2.1.2.2), x52.1.2.2.2.2.1, ()), (r56.2.1, ()))
            else none
          else
            (F_spec_l1Chance (x52.2.1.2.2.1, (20 : Int), ())).bind fun r58 =>
            if r58.1.1 then
              (F_spec_l3Memory (r58.2.1, ())).bind fun r59 =>
              some ((x52.2.1.2.1, ((x52.1.2.2.2.1.1.drop x52.1.2.2.2.1.2.1).take x52.1.2.2.2.1.2.2), r59.1.1, ()), (r59.2.1, ()))
            else
              some ((x52.2.1.2.1, ((x52.1.2.2.2.1.1.drop x52.1.2.2.2.1.2.1).take x52.1.2.2.2.1.2.2), x52.1.2.2.2.2.1, ()), (r58.2.1, ()))
        | .inr z51_ =>
          none
      else
        (F_spec_l1Chance (r50.2.1, (20 : Int), ())).bind fun r60 =>
        if r60.1.1 then
          (F_spec_l3Memory (r60.2.1, ())).bind fun r61 =>
          some ((x49.2.1.2.1, ((x49.1.2.2.2.1.1.drop x49.1.2.2.2.1.2.1).take x49.1.2.2.2.1.2.2), r61.1.1, ()), (r61.2.1, ()))
        else
          some ((x49.2.1.2.1, ((x49.1.2.2.2.1.1.drop x49.1.2.2.2.1.2.1).take x49.1.2.2.2.1.2.2), x49.1.2.2.2.2.1, ()), (r60.2.1, ()))
    | .inr z48_ =>
      none
abbrev C_spec_l10World : Con := ⟨P_spec_l10World, R_spec_l10World, F_spec_l10World, false⟩
abbrev G_spec_l10World : Env := [(54, C_spec_l1Next), (130, C_spec_l8Bent), (131, C_spec_l4Bent), (132, C_spec_l1Chance), (133, C_spec_NewMemory), (134, C_spec_l7Image), (135, C_spec_l3Memory)]
theorem g_spec_l10World : EnvOk Tryz.prog G_spec_l10World := (env_cons s_spec_l1Next (env_cons s_spec_l8Bent (env_cons s_spec_l4Bent (env_cons s_spec_l1Chance (env_cons s_spec_NewMemory (env_cons s_spec_l7Image (env_cons s_spec_l3Memory env_nil)))))))
abbrev c_spec_l10World_16 : Cut := ⟨i_spec_l10World_16, o_spec_l10World_16, fun x => iterF l_spec_l10World_16 lots x⟩
theorem t_spec_l10World_16 (rec x) : run T G_spec_l10World [] (nav Tryz.f52 [1, 1, 1, 1, 1, 1, 1, 0, 1, 0, 0, 1, 0, 0]) (mk 78 i_spec_l10World_16 x) (loopK i_spec_l10World_16 o_spec_l10World_16 rec) = l_spec_l10World_16 rec x := by kernel_rfl
theorem k_spec_l10World_16 : CutOk Tryz.prog 78 (.loop (nav Tryz.f52 [1, 1, 1, 1, 1, 1, 1, 0, 1, 0, 0, 1, 0, 0])) c_spec_l10World_16 :=
  loop_cut (L := []) hT g_spec_l10World t_spec_l10World_16 (plain_ok (by kernel_rfl)) _
abbrev c_spec_l10World_11 : Cut := ⟨i_spec_l10World_11, o_spec_l10World_11, fun x => iterF l_spec_l10World_11 lots x⟩
theorem t_spec_l10World_11 (rec x) : run T G_spec_l10World [] (nav Tryz.f52 [1, 1, 1, 1, 1, 1, 0, 1, 0, 0]) (mk 78 i_spec_l10World_11 x) (loopK i_spec_l10World_11 o_spec_l10World_11 rec) = l_spec_l10World_11 rec x := by kernel_rfl
theorem k_spec_l10World_11 : CutOk Tryz.prog 78 (.loop (nav Tryz.f52 [1, 1, 1, 1, 1, 1, 0, 1, 0, 0])) c_spec_l10World_11 :=
  loop_cut (L := []) hT g_spec_l10World t_spec_l10World_11 (plain_ok (by kernel_rfl)) _
abbrev c_spec_l10World_5 : Cut := ⟨i_spec_l10World_5, o_spec_l10World_5, fun x => iterF l_spec_l10World_5 lots x⟩
theorem t_spec_l10World_5 (rec x) : run T G_spec_l10World [] (nav Tryz.f52 [1, 1, 1, 0, 1, 0, 1, 0, 0]) (mk 78 i_spec_l10World_5 x) (loopK i_spec_l10World_5 o_spec_l10World_5 rec) = l_spec_l10World_5 rec x := by kernel_rfl
theorem k_spec_l10World_5 : CutOk Tryz.prog 78 (.loop (nav Tryz.f52 [1, 1, 1, 0, 1, 0, 1, 0, 0])) c_spec_l10World_5 :=
  loop_cut (L := []) hT g_spec_l10World t_spec_l10World_5 (plain_ok (by kernel_rfl)) _
theorem r_spec_l10World (x) : runFn T G_spec_l10World [(16, c_spec_l10World_16), (11, c_spec_l10World_11), (5, c_spec_l10World_5)] Tryz.f52 P_spec_l10World R_spec_l10World x = F_spec_l10World x := by kernel_rfl
theorem s_spec_l10World : CallsOk Tryz.prog 52 C_spec_l10World :=
  fn_calls (L := [(16, c_spec_l10World_16), (11, c_spec_l10World_11), (5, c_spec_l10World_5)]) hT g_spec_l10World Tryz.f52 (by kernel_rfl) (by kernel_rfl) (by kernel_rfl) (seq_ok (plain_ok (by kernel_rfl)) (seq_ok (plain_ok (by kernel_rfl)) (seq_ok (plain_ok (by kernel_rfl)) (seq_ok (seq_ok (plain_ok (by kernel_rfl)) (cond_ok (seq_ok (plain_ok (by kernel_rfl)) (block_ok (by kernel_rfl) (loop_ok (by kernel_rfl) k_spec_l10World_5))) (plain_ok (by kernel_rfl)))) (seq_ok (plain_ok (by kernel_rfl)) (seq_ok (plain_ok (by kernel_rfl)) (seq_ok (seq_ok (plain_ok (by kernel_rfl)) (block_ok (by kernel_rfl) (loop_ok (by kernel_rfl) k_spec_l10World_11))) (seq_ok (seq_ok (plain_ok (by kernel_rfl)) (cond_ok (seq_ok (seq_ok (plain_ok (by kernel_rfl)) (block_ok (by kernel_rfl) (loop_ok (by kernel_rfl) k_spec_l10World_16))) (plain_ok (by kernel_rfl))) (plain_ok (by kernel_rfl)))) (plain_ok (by kernel_rfl)))))))))) r_spec_l10World
/-! spec.DrawStepMany -/
abbrev P_spec_DrawStepMany : List PK := [.val Y22]
abbrev R_spec_DrawStepMany : List VK := [.g [.dat Y24, .dat YI, .own 2 YI, .dat .bool, .dat .bool, .dat .bool, .dat YI, .dat Y24, .own 2 YI], .s (.dat Y27), .s (.dat Y24), .s (.dat YI)]
def F_spec_DrawStepMany (x : denP P_spec_DrawStepMany) : Option (denV R_spec_DrawStepMany × denQ P_spec_DrawStepMany) :=
  (F_spec_l1Source (x.1, ())).bind fun r1 =>
  (F_spec_l10World ((r1.1.1.1, (r1.1.1.2.1, ())), ())).bind fun r2 =>
  (F_spec_l1Next (r2.2.1, (30 : Int), ())).bind fun r3 =>
  (F_spec_l1Next (r3.2.1, (90 : Int), ())).bind fun r4 =>
  (F_spec_l1Pick (r4.2.1, [r3.1.1, r4.1.1, (0 : Int), (500 : Int), (501 : Int), (-1 : Int)], ())).bind fun r5 =>
  some ((r2.1.1, r2.1.2.1, r2.1.2.2.1, r5.1.1, ()), ())
abbrev C_spec_DrawStepMany : Con := ⟨P_spec_DrawStepMany, R_spec_DrawStepMany, F_spec_DrawStepMany, false⟩
abbrev G_spec_DrawStepMany : Env := [(51, C_spec_l1Source), (52, C_spec_l10World), (53, C_spec_l1Pick), (54, C_spec_l1Next)]
theorem g_spec_DrawStepMany : EnvOk Tryz.prog G_spec_DrawStepMany := (env_cons s_spec_l1Source (env_cons s_spec_l10World (env_cons s_spec_l1Pick (env_cons s_spec_l1Next env_nil))))
theorem r_spec_DrawStepMany (x) : runFn T G_spec_DrawStepMany [] Tryz.f12 P_spec_DrawStepMany R_spec_DrawStepMany x = F_spec_DrawStepMany x := by kernel_rfl
theorem s_spec_DrawStepMany : CallsOk Tryz.prog 12 C_spec_DrawStepMany :=
  fn_calls (L := []) hT g_spec_DrawStepMany Tryz.f12 (by kernel_rfl) (by kernel_rfl) (by kernel_rfl) (plain_ok (by kernel_rfl)) r_spec_DrawStepMany
/-! impl.within -/
abbrev P_impl_within : List PK := [.val YI, .val YI, .val YI]
abbrev R_impl_within : List VK := [.s (.dat .bool)]
def F_impl_within (x : denP P_impl_within) : Option (denV R_impl_within × denQ P_impl_within) :=
  if (leI x.2.1 x.1) = true then
    some (((leI x.1 x.2.2.1), ()), ())
  else
    some ((false, ()), ())
abbrev C_impl_within : Con := ⟨P_impl_within, R_impl_within, F_impl_within, false⟩
abbrev G_impl_within : Env := []
theorem g_impl_within : EnvOk Tryz.prog G_impl_within := env_nil
theorem r_impl_within (x) : runFn T G_impl_within [] Tryz.f56 P_impl_within R_impl_within x = F_impl_within x := by kernel_rfl
theorem s_impl_within : CallsOk Tryz.prog 56 C_impl_within :=
  fn_calls (L := []) hT g_impl_within Tryz.f56 (by kernel_rfl) (by kernel_rfl) (by kernel_rfl) (plain_ok (by kernel_rfl)) r_impl_within
/-! impl.isWord -/
abbrev P_impl_isWord : List PK := [.val YI]
abbrev R_impl_isWord : List VK := [.s (.dat .bool)]
def F_impl_isWord (x : denP P_impl_isWord) : Option (denV R_impl_isWord × denQ P_impl_isWord) :=
  (F_impl_within (x.1, (0 : Int), (4294967295 : Int), ())).bind fun r1 =>
  some ((r1.1.1, ()), ())
abbrev C_impl_isWord : Con := ⟨P_impl_isWord, R_impl_isWord, F_impl_isWord, false⟩
abbrev G_impl_isWord : Env := [(56, C_impl_within)]
theorem g_impl_isWord : EnvOk Tryz.prog G_impl_isWord := (env_cons s_impl_within env_nil)
theorem r_impl_isWord (x) : runFn T G_impl_isWord [] Tryz.f63 P_impl_isWord R_impl_isWord x = F_impl_isWord x := by kernel_rfl
theorem s_impl_isWord : CallsOk Tryz.prog 63 C_impl_isWord :=
  fn_calls (L := []) hT g_impl_isWord Tryz.f63 (by kernel_rfl) (by kernel_rfl) (by kernel_rfl) (plain_ok (by kernel_rfl)) r_impl_isWord
/-! impl.areWords.1 -/
abbrev P_impl_areWords_1 : List PK := [.val YI]
abbrev R_impl_areWords_1 : List VK := [.s (.dat .bool)]
def F_impl_areWords_1 (x : denP P_impl_areWords_1) : Option (denV R_impl_areWords_1 × denQ P_impl_areWords_1) :=
  (F_impl_isWord (x.1, ())).bind fun r1 =>
  some (((!r1.1.1), ()), ())
abbrev C_impl_areWords_1 : Con := ⟨P_impl_areWords_1, R_impl_areWords_1, F_impl_areWords_1, false⟩
abbrev G_impl_areWords_1 : Env := [(63, C_impl_isWord)]
theorem g_impl_areWords_1 : EnvOk Tryz.prog G_impl_areWords_1 := (env_cons s_impl_isWord env_nil)
theorem r_impl_areWords_1 (x) : runFn T G_impl_areWords_1 [] Tryz.f153 P_impl_areWords_1 R_impl_areWords_1 x = F_impl_areWords_1 x := by kernel_rfl
theorem s_impl_areWords_1 : CallsOk Tryz.prog 153 C_impl_areWords_1 :=
  fn_calls (L := []) hT g_impl_areWords_1 Tryz.f153 (by kernel_rfl) (by kernel_rfl) (by kernel_rfl) (plain_ok (by kernel_rfl)) r_impl_areWords_1
/-! slices.IndexFunc[int64,int64] -/
abbrev P_slices_IndexFunc_int64_of_impl_areWords_1 : List PK := [.val Y24, .fn 153 []]
abbrev R_slices_IndexFunc_int64_of_impl_areWords_1 : List VK := [.s (.dat YI)]
abbrev i_slices_IndexFunc_int64_of_impl_areWords_1_2 : Shp := { slots := [(0, .s (.dat Y24)), (1, .s (.fn 153 [])), (7, .s (.dat YI)), (8, .s (.dat YI))], boxes := [], rows := [] }
abbrev o_slices_IndexFunc_int64_of_impl_areWords_1_2 : List (Ex × Shp) := [(.exit 0, { slots := [], boxes := [], rows := [] }), (.ret, { slots := [(4, .s (.dat YI))], boxes := [], rows := [] })]
def l_slices_IndexFunc_int64_of_impl_areWords_1_2 (rec : i_slices_IndexFunc_int64_of_impl_areWords_1_2.den → Option (denO o_slices_IndexFunc_int64_of_impl_areWords_1_2)) (u2 : i_slices_IndexFunc_int64_of_impl_areWords_1_2.den) : Option (denO o_slices_IndexFunc_int64_of_impl_areWords_1_2) :=
  if (ltI u2.1.2.2.2.1 u2.1.2.2.1) then
    if 0 ≤ u2.1.2.2.2.1 then
      ((u2.1.1)[(u2.1.2.2.2.1).toNat]?).bind fun y4 =>
      (F_impl_areWords_1 (y4, ())).bind fun r5 =>
      if r5.1.1 then
        some (.inr (.inl ((u2.1.2.2.2.1, ()), ((), ()))))
      else
        let v6 := (IntKind.i64.wrap (u2.1.2.2.2.1 + (1 : Int)))
        rec ((u2.1.1, ((), (u2.1.2.2.1, (v6, ())))), ((), ()))
    else none
  else
    some (.inl ((), ((), ())))
def L_slices_IndexFunc_int64_of_impl_areWords_1_2 (x : i_slices_IndexFunc_int64_of_impl_areWords_1_2.den) : Option (denO o_slices_IndexFunc_int64_of_impl_areWords_1_2) := iterF l_slices_IndexFunc_int64_of_impl_areWords_1_2 lots x
def F_slices_IndexFunc_int64_of_impl_areWords_1 (x : denP P_slices_IndexFunc_int64_of_impl_areWords_1) : Option (denV R_slices_IndexFunc_int64_of_impl_areWords_1 × denQ P_slices_IndexFunc_int64_of_impl_areWords_1) :=
  let v1 := ((x.1.length : Nat) : Int)
  (L_slices_IndexFunc_int64_of_impl_areWords_1_2 ((x.1, ((), (v1, ((0 : Int), ())))), ((), ()))).bind fun z7 =>
  match z7 with
  | .inl x8 =>
    some (((-1 : Int), ()), ())
  | .inr z7_ =>
    match z7_ with
    | .inl x9 =>
      some ((x9.1.1, ()), ())
    | .inr z7__ =>
      none
abbrev C_slices_IndexFunc_int64_of_impl_areWords_1 : Con := ⟨P_slices_IndexFunc_int64_of_impl_areWords_1, R_slices_IndexFunc_int64_of_impl_areWords_1, F_slices_IndexFunc_int64_of_impl_areWords_1, false⟩
abbrev G_slices_IndexFunc_int64_of_impl_areWords_1 : Env := [(153, C_impl_areWords_1)]
theorem g_slices_IndexFunc_int64_of_impl_areWords_1 : EnvOk Tryz.prog G_slices_IndexFunc_int64_of_impl_areWords_1 := (env_cons s_impl_areWords_1 env_nil)
abbrev c_slices_IndexFunc_int64_of_impl_areWords_1_2 : Cut := ⟨i_slices_IndexFunc_int64_of_impl_areWords_1_2, o_slices_IndexFunc_int64_of_impl_areWords_1_2, fun x => iterF l_slices_IndexFunc_int64_of_impl_areWords_1_2 lots x⟩
theorem t_slices_IndexFunc_int64_of_impl_areWords_1_2 (rec x) : run T G_slices_IndexFunc_int64_of_impl_areWords_1 [] (nav Tryz.f230 [1, 0, 1, 0, 0]) (mk 19 i_slices_IndexFunc_int64_of_impl_areWords_1_2 x) (loopK i_slices_IndexFunc_int64_of_impl_areWords_1_2 o_slices_IndexFunc_int64_of_impl_areWords_1_2 rec) = l_slices_IndexFunc_int64_of_impl_areWords_1_2 rec x := by kernel_rfl
theorem k_slices_IndexFunc_int64_of_impl_areWords_1_2 : CutOk Tryz.prog 19 (.loop (nav Tryz.f230 [1, 0, 1, 0, 0])) c_slices_IndexFunc_int64_of_impl_areWords_1_2 :=
  loop_cut (L := []) hT g_slices_IndexFunc_int64_of_impl_areWords_1 t_slices_IndexFunc_int64_of_impl_areWords_1_2 (plain_ok (by kernel_rfl)) _
theorem r_slices_IndexFunc_int64_of_impl_areWords_1 (x) : runFn T G_slices_IndexFunc_int64_of_impl_areWords_1 [(2, c_slices_IndexFunc_int64_of_impl_areWords_1_2)] Tryz.f230 P_slices_IndexFunc_int64_of_impl_areWords_1 R_slices_IndexFunc_int64_of_impl_areWords_1 x = F_slices_IndexFunc_int64_of_impl_areWords_1 x := by kernel_rfl
theorem s_slices_IndexFunc_int64_of_impl_areWords_1 : CallsOk Tryz.prog 230 C_slices_IndexFunc_int64_of_impl_areWords_1 :=
  fn_calls (L := [(2, c_slices_IndexFunc_int64_of_impl_areWords_1_2)]) hT g_slices_IndexFunc_int64_of_impl_areWords_1 Tryz.f230 (by kernel_rfl) (by kernel_rfl) (by kernel_rfl) (seq_ok (plain_ok (by kernel_rfl)) (seq_ok (seq_ok (plain_ok (by kernel_rfl)) (block_ok (by kernel_rfl) (loop_ok (by kernel_rfl) k_slices_IndexFunc_int64_of_impl_areWords_1_2))) (plain_ok (by kernel_rfl)))) r_slices_IndexFunc_int64_of_impl_areWords_1
/-! slices.ContainsFunc[int64,int64] -/
abbrev P_slices_ContainsFunc_int64_of_impl_areWords_1 : List PK := [.val Y24, .fn 153 []]
abbrev R_slices_ContainsFunc_int64_of_impl_areWords_1 : List VK := [.s (.dat .bool)]
def F_slices_ContainsFunc_int64_of_impl_areWords_1 (x : denP P_slices_ContainsFunc_int64_of_impl_areWords_1) : Option (denV R_slices_ContainsFunc_int64_of_impl_areWords_1 × denQ P_slices_ContainsFunc_int64_of_impl_areWords_1) :=
  (F_slices_IndexFunc_int64_of_impl_areWords_1 (x.1, (), ())).bind fun r1 =>
  some (((leI (0 : Int) r1.1.1), ()), ())
abbrev C_slices_ContainsFunc_int64_of_impl_areWords_1 : Con := ⟨P_slices_ContainsFunc_int64_of_impl_areWords_1, R_slices_ContainsFunc_int64_of_impl_areWords_1, F_slices_ContainsFunc_int64_of_impl_areWords_1, false⟩
abbrev G_slices_ContainsFunc_int64_of_impl_areWords_1 : Env := [(230, C_slices_IndexFunc_int64_of_impl_areWords_1)]
theorem g_slices_ContainsFunc_int64_of_impl_areWords_1 : EnvOk Tryz.prog G_slices_ContainsFunc_int64_of_impl_areWords_1 := (env_cons s_slices_IndexFunc_int64_of_impl_areWords_1 env_nil)
theorem r_slices_ContainsFunc_int64_of_impl_areWords_1 (x) : runFn T G_slices_ContainsFunc_int64_of_impl_areWords_1 [] Tryz.f152 P_slices_ContainsFunc_int64_of_impl_areWords_1 R_slices_ContainsFunc_int64_of_impl_areWords_1 x = F_slices_ContainsFunc_int64_of_impl_areWords_1 x := by kernel_rfl
theorem s_slices_ContainsFunc_int64_of_impl_areWords_1 : CallsOk Tryz.prog 152 C_slices_ContainsFunc_int64_of_impl_areWords_1 :=
  fn_calls (L := []) hT g_slices_ContainsFunc_int64_of_impl_areWords_1 Tryz.f152 (by kernel_rfl) (by kernel_rfl) (by kernel_rfl) (plain_ok (by kernel_rfl)) r_slices_ContainsFunc_int64_of_impl_areWords_1
/-! impl.areWords -/
abbrev P_impl_areWords : List PK := [.val Y24]
abbrev R_impl_areWords : List VK := [.s (.dat .bool)]
def F_impl_areWords (x : denP P_impl_areWords) : Option (denV R_impl_areWords × denQ P_impl_areWords) :=
  (F_slices_ContainsFunc_int64_of_impl_areWords_1 (x.1, (), ())).bind fun r1 =>
  some (((!r1.1.1), ()), ())
abbrev C_impl_areWords : Con := ⟨P_impl_areWords, R_impl_areWords, F_impl_areWords, false⟩
abbrev G_impl_areWords : Env := [(152, C_slices_ContainsFunc_int64_of_impl_areWords_1)]
theorem g_impl_areWords : EnvOk Tryz.prog G_impl_areWords := (env_cons s_slices_ContainsFunc_int64_of_impl_areWords_1 env_nil)
theorem r_impl_areWords (x) : runFn T G_impl_areWords [] Tryz.f62 P_impl_areWords R_impl_areWords x = F_impl_areWords x := by kernel_rfl
theorem s_impl_areWords : CallsOk Tryz.prog 62 C_impl_areWords :=
  fn_calls (L := []) hT g_impl_areWords Tryz.f62 (by kernel_rfl) (by kernel_rfl) (by kernel_rfl) (plain_ok (by kernel_rfl)) r_impl_areWords
/-! impl.HartFault -/
abbrev P_impl_HartFault : List PK := [.val Y25]
abbrev R_impl_HartFault : List VK := [.s (.dat YI)]
def F_impl_HartFault (x : denP P_impl_HartFault) : Option (denV R_impl_HartFault × denQ P_impl_HartFault) :=
  let v1 := ((x.1.1.length : Nat) : Int)
  if (v1 != (16 : Int)) = false then
    let v2 := ((x.1.2.2.1.length : Nat) : Int)
    if (v2 != (11 : Int)) = false then
      ((x.1.1)[((0 : Int)).toNat]?).bind fun y3 =>
      if (y3 != (0 : Int)) then
        some (((1 : Int), ()), ())
      else
        (F_impl_areWords (x.1.1, ())).bind fun r4 =>
        if (!r4.1.1) = false then
          (F_impl_isWord (x.1.2.1, ())).bind fun r5 =>
          if (!r5.1.1) = false then
            (F_impl_areWords (x.1.2.2.1, ())).bind fun r6 =>
            if (!r6.1.1) = false then
              (F_impl_areWords (x.1.2.2.2.2.2.2.2.1, ())).bind fun r7 =>
              if (!r7.1.1) = false then
                (F_impl_areWords (x.1.2.2.2.2.2.2.2.2.1, ())).bind fun r8 =>
                if (!r8.1.1) then
                  some (((3 : Int), ()), ())
                else
                  let v9 := ((x.1.2.2.2.2.2.2.2.1.length : Nat) : Int)
                  if (ltI (40 : Int) v9) = false then
                    let v10 := ((x.1.2.2.2.2.2.2.2.2.1.length : Nat) : Int)
                    if (ltI (40 : Int) v10) then
                      some (((2 : Int), ()), ())
                    else
                      (F_impl_within (x.1.2.2.2.2.2.2.1, (0 : Int), (1000000000 : Int), ())).bind fun r11 =>
                      if (!r11.1.1) then
                        some (((3 : Int), ()), ())
                      else
                        ((x.1.2.2.1)[((0 : Int)).toNat]?).bind fun y12 =>
                        if (ltI (3 : Int) y12) = false then
                          ((x.1.2.2.1)[((7 : Int)).toNat]?).bind fun y13 =>
                          if (ltI (7 : Int) y13) = false then
                            ((x.1.2.2.1)[((10 : Int)).toNat]?).bind fun y14 =>
                            if (ltI (8 : Int) y14) = false then
                              ((x.1.2.2.1)[((6 : Int)).toNat]?).bind fun y15 =>
                              if (y15 != (0 : Int)) = false then
                                ((x.1.2.2.1)[((8 : Int)).toNat]?).bind fun y16 =>
                                if (y16 != (0 : Int)) then
                                  some (((1 : Int), ()), ())
                                else
                                  some (((0 : Int), ()), ())
                              else
                                some (((1 : Int), ()), ())
                            else
                              some (((1 : Int), ()), ())
                          else
                            some (((1 : Int), ()), ())
                        else
                          some (((1 : Int), ()), ())
                  else
                    some (((2 : Int), ()), ())
              else
                some (((3 : Int), ()), ())
            else
              some (((3 : Int), ()), ())
          else
            some (((3 : Int), ()), ())
        else
          some (((3 : Int), ()), ())
    else
      some (((1 : Int), ()), ())
  else
    some (((1 : Int), ()), ())
abbrev C_impl_HartFault : Con := ⟨P_impl_HartFault, R_impl_HartFault, F_impl_HartFault, false⟩
abbrev G_impl_HartFault : Env := [(56, C_impl_within), (62, C_impl_areWords), (63, C_impl_isWord)]
theorem g_impl_HartFault : EnvOk Tryz.prog G_impl_HartFault := (env_cons s_impl_within (env_cons s_impl_areWords (env_cons s_impl_isWord env_nil)))
theorem r_impl_HartFault (x) : runFn T G_impl_HartFault [] Tryz.f20 P_impl_HartFault R_impl_HartFault x = F_impl_HartFault x := by kernel_rfl
theorem s_impl_HartFault : CallsOk Tryz.prog 20 C_impl_HartFault :=
  fn_calls (L := []) hT g_impl_HartFault Tryz.f20 (by kernel_rfl) (by kernel_rfl) (by kernel_rfl) (plain_ok (by kernel_rfl)) r_impl_HartFault
/-! impl.PagesFault -/
abbrev P_impl_PagesFault : List PK := [.val Y27, .val YI]
abbrev R_impl_PagesFault : List VK := [.s (.dat YI)]
abbrev i_impl_PagesFault_6 : Shp := { slots := [(1, .s (.dat YI)), (15, .s (.dat Y27)), (16, .s (.dat YI)), (17, .s (.dat YI))], boxes := [], rows := [] }
abbrev o_impl_PagesFault_6 : List (Ex × Shp) := [(.exit 1, { slots := [], boxes := [], rows := [] }), (.ret, { slots := [(4, .s (.dat YI))], boxes := [], rows := [] })]
def l_impl_PagesFault_6 (rec : i_impl_PagesFault_6.den → Option (denO o_impl_PagesFault_6)) (u6 : i_impl_PagesFault_6.den) : Option (denO o_impl_PagesFault_6) :=
  if (ltI u6.1.2.2.2.1 u6.1.2.2.1) then
    if 0 ≤ u6.1.2.2.2.1 then
      ((u6.1.2.1)[(u6.1.2.2.2.1).toNat]?).bind fun y7 =>
      let v8 := (IntKind.i64.wrap (u6.1.1 - (1 : Int)))
      (F_impl_within (y7.1, (-1 : Int), v8, ())).bind fun r9 =>
      if (!r9.1.1) = false then
        (F_impl_within (y7.2.1, (0 : Int), (7 : Int), ())).bind fun r10 =>
        if (!r10.1.1) then
          some (.inr (.inl (((3 : Int), ()), ((), ()))))
        else
          if (y7.1 == (-1 : Int)) = true then
            if (y7.2.1 != (0 : Int)) then
              some (.inr (.inl (((1 : Int), ()), ((), ()))))
            else
              let v11 := (IntKind.i64.wrap (u6.1.2.2.2.1 + (1 : Int)))
              rec ((u6.1.1, (u6.1.2.1, (u6.1.2.2.1, (v11, ())))), ((), ()))
          else
            let v12 := (IntKind.i64.wrap (u6.1.2.2.2.1 + (1 : Int)))
            rec ((u6.1.1, (u6.1.2.1, (u6.1.2.2.1, (v12, ())))), ((), ()))
      else
        some (.inr (.inl (((3 : Int), ()), ((), ()))))
    else none
  else
    some (.inl ((), ((), ())))
def L_impl_PagesFault_6 (x : i_impl_PagesFault_6.den) : Option (denO o_impl_PagesFault_6) := iterF l_impl_PagesFault_6 lots x
def F_impl_PagesFault (x : denP P_impl_PagesFault) : Option (denV R_impl_PagesFault × denQ P_impl_PagesFault) :=
  (F_impl_within (x.2.1, (1 : Int), (24 : Int), ())).bind fun r1 =>
  if (!r1.1.1) then
    some (((3 : Int), ()), ())
  else
    let v2 := ((x.1.length : Nat) : Int)
    if (v2 != (8 : Int)) then
      some (((1 : Int), ()), ())
    else
      let v3 := ((x.1.length : Nat) : Int)
      (L_impl_PagesFault_6 ((x.2.1, (x.1, (v3, ((0 : Int), ())))), ((), ()))).bind fun z13 =>
      match z13 with
      | .inl x14 =>
        some (((0 : Int), ()), ())
      | .inr z13_ =>
        match z13_ with
        | .inl x15 =>
          some ((x15.1.1, ()), ())
        | .inr z13__ =>
          none
abbrev C_impl_PagesFault : Con := ⟨P_impl_PagesFault, R_impl_PagesFault, F_impl_PagesFault, false⟩
abbrev G_impl_PagesFault : Env := [(56, C_impl_within)]
theorem g_impl_PagesFault : EnvOk Tryz.prog G_impl_PagesFault := (env_cons s_impl_within env_nil)
abbrev c_impl_PagesFault_6 : Cut := ⟨i_impl_PagesFault_6, o_impl_PagesFault_6, fun x => iterF l_impl_PagesFault_6 lots x⟩
theorem t_impl_PagesFault_6 (rec x) : run T G_impl_PagesFault [] (nav Tryz.f136 [1, 1, 0, 1, 0, 0]) (mk 44 i_impl_PagesFault_6 x) (loopK i_impl_PagesFault_6 o_impl_PagesFault_6 rec) = l_impl_PagesFault_6 rec x := by kernel_rfl
theorem k_impl_PagesFault_6 : CutOk Tryz.prog 44 (.loop (nav Tryz.f136 [1, 1, 0, 1, 0, 0])) c_impl_PagesFault_6 :=
  loop_cut (L := []) hT g_impl_PagesFault t_impl_PagesFault_6 (plain_ok (by kernel_rfl)) _
theorem r_impl_PagesFault (x) : runFn T G_impl_PagesFault [(6, c_impl_PagesFault_6)] Tryz.f136 P_impl_PagesFault R_impl_PagesFault x = F_impl_PagesFault x := by kernel_rfl
theorem s_impl_PagesFault : CallsOk Tryz.prog 136 C_impl_PagesFault :=
  fn_calls (L := [(6, c_impl_PagesFault_6)]) hT g_impl_PagesFault Tryz.f136 (by kernel_rfl) (by kernel_rfl) (by kernel_rfl) (seq_ok (plain_ok (by kernel_rfl)) (seq_ok (plain_ok (by kernel_rfl)) (seq_ok (seq_ok (plain_ok (by kernel_rfl)) (block_ok (by kernel_rfl) (loop_ok (by kernel_rfl) k_impl_PagesFault_6))) (plain_ok (by kernel_rfl))))) r_impl_PagesFault
/-! impl.firstOf -/
abbrev P_impl_firstOf : List PK := [.val Y24]
abbrev R_impl_firstOf : List VK := [.s (.dat YI)]
abbrev i_impl_firstOf_2 : Shp := { slots := [(5, .s (.dat Y24)), (6, .s (.dat YI)), (7, .s (.dat YI))], boxes := [], rows := [] }
abbrev o_impl_firstOf_2 : List (Ex × Shp) := [(.exit 0, { slots := [], boxes := [], rows := [] }), (.ret, { slots := [(2, .s (.dat YI))], boxes := [], rows := [] })]
def l_impl_firstOf_2 (rec : i_impl_firstOf_2.den → Option (denO o_impl_firstOf_2)) (u2 : i_impl_firstOf_2.den) : Option (denO o_impl_firstOf_2) :=
  if (ltI u2.1.2.2.1 u2.1.2.1) then
    if 0 ≤ u2.1.2.2.1 then
      ((u2.1.1)[(u2.1.2.2.1).toNat]?).bind fun y3 =>
      if (y3 != (0 : Int)) then
        some (.inr (.inl ((y3, ()), ((), ()))))
      else
        let v4 := (IntKind.i64.wrap (u2.1.2.2.1 + (1 : Int)))
        rec ((u2.1.1, (u2.1.2.1, (v4, ()))), ((), ()))
    else none
  else
    some (.inl ((), ((), ())))
def L_impl_firstOf_2 (x : i_impl_firstOf_2.den) : Option (denO o_impl_firstOf_2) := iterF l_impl_firstOf_2 lots x
def F_impl_firstOf (x : denP P_impl_firstOf) : Option (denV R_impl_firstOf × denQ P_impl_firstOf) :=
  let v1 := ((x.1.length : Nat) : Int)
  (L_impl_firstOf_2 ((x.1, (v1, ((0 : Int), ()))), ((), ()))).bind fun z5 =>
  match z5 with
  | .inl x6 =>
    some (((0 : Int), ()), ())
  | .inr z5_ =>
    match z5_ with
    | .inl x7 =>
      some ((x7.1.1, ()), ())
    | .inr z5__ =>
      none
abbrev C_impl_firstOf : Con := ⟨P_impl_firstOf, R_impl_firstOf, F_impl_firstOf, false⟩
abbrev G_impl_firstOf : Env := []
theorem g_impl_firstOf : EnvOk Tryz.prog G_impl_firstOf := env_nil
abbrev c_impl_firstOf_2 : Cut := ⟨i_impl_firstOf_2, o_impl_firstOf_2, fun x => iterF l_impl_firstOf_2 lots x⟩
theorem t_impl_firstOf_2 (rec x) : run T G_impl_firstOf [] (nav Tryz.f87 [1, 0, 1, 0, 0]) (mk 15 i_impl_firstOf_2 x) (loopK i_impl_firstOf_2 o_impl_firstOf_2 rec) = l_impl_firstOf_2 rec x := by kernel_rfl
theorem k_impl_firstOf_2 : CutOk Tryz.prog 15 (.loop (nav Tryz.f87 [1, 0, 1, 0, 0])) c_impl_firstOf_2 :=
  loop_cut (L := []) hT g_impl_firstOf t_impl_firstOf_2 (plain_ok (by kernel_rfl)) _
theorem r_impl_firstOf (x) : runFn T G_impl_firstOf [(2, c_impl_firstOf_2)] Tryz.f87 P_impl_firstOf R_impl_firstOf x = F_impl_firstOf x := by kernel_rfl
theorem s_impl_firstOf : CallsOk Tryz.prog 87 C_impl_firstOf :=
  fn_calls (L := [(2, c_impl_firstOf_2)]) hT g_impl_firstOf Tryz.f87 (by kernel_rfl) (by kernel_rfl) (by kernel_rfl) (seq_ok (plain_ok (by kernel_rfl)) (seq_ok (seq_ok (plain_ok (by kernel_rfl)) (block_ok (by kernel_rfl) (loop_ok (by kernel_rfl) k_impl_firstOf_2))) (plain_ok (by kernel_rfl)))) r_impl_firstOf
/-! impl.MemoryFault -/
abbrev P_impl_MemoryFault : List PK := [.val Y24]
abbrev R_impl_MemoryFault : List VK := [.s (.dat YI)]
def F_impl_MemoryFault (x : denP P_impl_MemoryFault) : Option (denV R_impl_MemoryFault × denQ P_impl_MemoryFault) :=
  let v1 := ((x.1.length : Nat) : Int)
  if (v1 == (0 : Int)) = false then
    let v2 := ((x.1.length : Nat) : Int)
    if (ltI (192 : Int) v2) = false then
      let v3 := ((x.1.length : Nat) : Int)
      let v4 := ((v3).tmod (8 : Int))
      if (v4 != (0 : Int)) then
        some (((1 : Int), ()), ())
      else
        (F_impl_areWords (x.1, ())).bind fun r5 =>
        if (!r5.1.1) then
          some (((3 : Int), ()), ())
        else
          some (((0 : Int), ()), ())
    else
      some (((1 : Int), ()), ())
  else
    some (((1 : Int), ()), ())
abbrev C_impl_MemoryFault : Con := ⟨P_impl_MemoryFault, R_impl_MemoryFault, F_impl_MemoryFault, false⟩
abbrev G_impl_MemoryFault : Env := [(62, C_impl_areWords)]
theorem g_impl_MemoryFault : EnvOk Tryz.prog G_impl_MemoryFault := (env_cons s_impl_areWords env_nil)
theorem r_impl_MemoryFault (x) : runFn T G_impl_MemoryFault [] Tryz.f21 P_impl_MemoryFault R_impl_MemoryFault x = F_impl_MemoryFault x := by kernel_rfl
theorem s_impl_MemoryFault : CallsOk Tryz.prog 21 C_impl_MemoryFault :=
  fn_calls (L := []) hT g_impl_MemoryFault Tryz.f21 (by kernel_rfl) (by kernel_rfl) (by kernel_rfl) (plain_ok (by kernel_rfl)) r_impl_MemoryFault
/-! impl.stepFault.1 -/
abbrev P_impl_stepFault_1 : List PK := [.val Y40, .ptr YI]
abbrev R_impl_stepFault_1 : List VK := [.s (.dat .bool)]
def F_impl_stepFault_1 (x : denP P_impl_stepFault_1) : Option (denV R_impl_stepFault_1 × denQ P_impl_stepFault_1) :=
  some (((leI x.2.1 x.1.1), ()), ())
abbrev C_impl_stepFault_1 : Con := ⟨P_impl_stepFault_1, R_impl_stepFault_1, F_impl_stepFault_1, false⟩
abbrev G_impl_stepFault_1 : Env := []
theorem g_impl_stepFault_1 : EnvOk Tryz.prog G_impl_stepFault_1 := env_nil
theorem r_impl_stepFault_1 (x) : runFn T G_impl_stepFault_1 [] Tryz.f138 P_impl_stepFault_1 R_impl_stepFault_1 x = F_impl_stepFault_1 x := by kernel_rfl
theorem s_impl_stepFault_1 : CallsOk Tryz.prog 138 C_impl_stepFault_1 :=
  fn_calls (L := []) hT g_impl_stepFault_1 Tryz.f138 (by kernel_rfl) (by kernel_rfl) (by kernel_rfl) (plain_ok (by kernel_rfl)) r_impl_stepFault_1
/-! slices.IndexFunc[impl.Page,impl.Page] -/
abbrev P_slices_IndexFunc_impl_Page_of_impl_stepFault_1 : List PK := [.val Y27, .fn 138 [YI]]
abbrev R_slices_IndexFunc_impl_Page_of_impl_stepFault_1 : List VK := [.s (.dat YI)]
abbrev i_slices_IndexFunc_impl_Page_of_impl_stepFault_1_2 : Shp := { slots := [(0, .s (.dat Y27)), (1, .s (.fn 138 [YI])), (7, .s (.dat YI)), (8, .s (.dat YI))], boxes := [], rows := [] }
abbrev o_slices_IndexFunc_impl_Page_of_impl_stepFault_1_2 : List (Ex × Shp) := [(.exit 0, { slots := [], boxes := [], rows := [] }), (.ret, { slots := [(4, .s (.dat YI))], boxes := [], rows := [] })]
def l_slices_IndexFunc_impl_Page_of_impl_stepFault_1_2 (rec : i_slices_IndexFunc_impl_Page_of_impl_stepFault_1_2.den → Option (denO o_slices_IndexFunc_impl_Page_of_impl_stepFault_1_2)) (u2 : i_slices_IndexFunc_impl_Page_of_impl_stepFault_1_2.den) : Option (denO o_slices_IndexFunc_impl_Page_of_impl_stepFault_1_2) :=
  if (ltI u2.1.2.2.2.1 u2.1.2.2.1) then
    if 0 ≤ u2.1.2.2.2.1 then
      ((u2.1.1)[(u2.1.2.2.2.1).toNat]?).bind fun y4 =>
      (F_impl_stepFault_1 (y4, u2.1.2.1.1, ())).bind fun r5 =>
      if r5.1.1 then
        some (.inr (.inl ((u2.1.2.2.2.1, ()), ((), ()))))
      else
        let v6 := (IntKind.i64.wrap (u2.1.2.2.2.1 + (1 : Int)))
        rec ((u2.1.1, ((u2.1.2.1.1, ()), (u2.1.2.2.1, (v6, ())))), ((), ()))
    else none
  else
    some (.inl ((), ((), ())))
def L_slices_IndexFunc_impl_Page_of_impl_stepFault_1_2 (x : i_slices_IndexFunc_impl_Page_of_impl_stepFault_1_2.den) : Option (denO o_slices_IndexFunc_impl_Page_of_impl_stepFault_1_2) := iterF l_slices_IndexFunc_impl_Page_of_impl_stepFault_1_2 lots x
def F_slices_IndexFunc_impl_Page_of_impl_stepFault_1 (x : denP P_slices_IndexFunc_impl_Page_of_impl_stepFault_1) : Option (denV R_slices_IndexFunc_impl_Page_of_impl_stepFault_1 × denQ P_slices_IndexFunc_impl_Page_of_impl_stepFault_1) :=
  let v1 := ((x.1.length : Nat) : Int)
  (L_slices_IndexFunc_impl_Page_of_impl_stepFault_1_2 ((x.1, ((x.2.1.1, ()), (v1, ((0 : Int), ())))), ((), ()))).bind fun z7 =>
  match z7 with
  | .inl x8 =>
    some (((-1 : Int), ()), ())
  | .inr z7_ =>
    match z7_ with
    | .inl x9 =>
      some ((x9.1.1, ()), ())
    | .inr z7__ =>
      none
abbrev C_slices_IndexFunc_impl_Page_of_impl_stepFault_1 : Con := ⟨P_slices_IndexFunc_impl_Page_of_impl_stepFault_1, R_slices_IndexFunc_impl_Page_of_impl_stepFault_1, F_slices_IndexFunc_impl_Page_of_impl_stepFault_1, false⟩
abbrev G_slices_IndexFunc_impl_Page_of_impl_stepFault_1 : Env := [(138, C_impl_stepFault_1)]
theorem g_slices_IndexFunc_impl_Page_of_impl_stepFault_1 : EnvOk Tryz.prog G_slices_IndexFunc_impl_Page_of_impl_stepFault_1 := (env_cons s_impl_stepFault_1 env_nil)
abbrev c_slices_IndexFunc_impl_Page_of_impl_stepFault_1_2 : Cut := ⟨i_slices_IndexFunc_impl_Page_of_impl_stepFault_1_2, o_slices_IndexFunc_impl_Page_of_impl_stepFault_1_2, fun x => iterF l_slices_IndexFunc_impl_Page_of_impl_stepFault_1_2 lots x⟩
theorem t_slices_IndexFunc_impl_Page_of_impl_stepFault_1_2 (rec x) : run T G_slices_IndexFunc_impl_Page_of_impl_stepFault_1 [] (nav Tryz.f214 [1, 0, 1, 0, 0]) (mk 19 i_slices_IndexFunc_impl_Page_of_impl_stepFault_1_2 x) (loopK i_slices_IndexFunc_impl_Page_of_impl_stepFault_1_2 o_slices_IndexFunc_impl_Page_of_impl_stepFault_1_2 rec) = l_slices_IndexFunc_impl_Page_of_impl_stepFault_1_2 rec x := by kernel_rfl
theorem k_slices_IndexFunc_impl_Page_of_impl_stepFault_1_2 : CutOk Tryz.prog 19 (.loop (nav Tryz.f214 [1, 0, 1, 0, 0])) c_slices_IndexFunc_impl_Page_of_impl_stepFault_1_2 :=
  loop_cut (L := []) hT g_slices_IndexFunc_impl_Page_of_impl_stepFault_1 t_slices_IndexFunc_impl_Page_of_impl_stepFault_1_2 (plain_ok (by kernel_rfl)) _
theorem r_slices_IndexFunc_impl_Page_of_impl_stepFault_1 (x) : runFn T G_slices_IndexFunc_impl_Page_of_impl_stepFault_1 [(2, c_slices_IndexFunc_impl_Page_of_impl_stepFault_1_2)] Tryz.f214 P_slices_IndexFunc_impl_Page_of_impl_stepFault_1 R_slices_IndexFunc_impl_Page_of_impl_stepFault_1 x = F_slices_IndexFunc_impl_Page_of_impl_stepFault_1 x := by kernel_rfl
theorem s_slices_IndexFunc_impl_Page_of_impl_stepFault_1 : CallsOk Tryz.prog 214 C_slices_IndexFunc_impl_Page_of_impl_stepFault_1 :=
  fn_calls (L := [(2, c_slices_IndexFunc_impl_Page_of_impl_stepFault_1_2)]) hT g_slices_IndexFunc_impl_Page_of_impl_stepFault_1 Tryz.f214 (by kernel_rfl) (by kernel_rfl) (by kernel_rfl) (seq_ok (plain_ok (by kernel_rfl)) (seq_ok (seq_ok (plain_ok (by kernel_rfl)) (block_ok (by kernel_rfl) (loop_ok (by kernel_rfl) k_slices_IndexFunc_impl_Page_of_impl_stepFault_1_2))) (plain_ok (by kernel_rfl)))) r_slices_IndexFunc_impl_Page_of_impl_stepFault_1
/-! slices.ContainsFunc[impl.Page,impl.Page] -/
abbrev P_slices_ContainsFunc_impl_Page_of_impl_stepFault_1 : List PK := [.val Y27, .fn 138 [YI]]
abbrev R_slices_ContainsFunc_impl_Page_of_impl_stepFault_1 : List VK := [.s (.dat .bool)]
def F_slices_ContainsFunc_impl_Page_of_impl_stepFault_1 (x : denP P_slices_ContainsFunc_impl_Page_of_impl_stepFault_1) : Option (denV R_slices_ContainsFunc_impl_Page_of_impl_stepFault_1 × denQ P_slices_ContainsFunc_impl_Page_of_impl_stepFault_1) :=
  (F_slices_IndexFunc_impl_Page_of_impl_stepFault_1 (x.1, (x.2.1.1, ()), ())).bind fun r1 =>
  some (((leI (0 : Int) r1.1.1), ()), ())
abbrev C_slices_ContainsFunc_impl_Page_of_impl_stepFault_1 : Con := ⟨P_slices_ContainsFunc_impl_Page_of_impl_stepFault_1, R_slices_ContainsFunc_impl_Page_of_impl_stepFault_1, F_slices_ContainsFunc_impl_Page_of_impl_stepFault_1, false⟩
abbrev G_slices_ContainsFunc_impl_Page_of_impl_stepFault_1 : Env := [(214, C_slices_IndexFunc_impl_Page_of_impl_stepFault_1)]
theorem g_slices_ContainsFunc_impl_Page_of_impl_stepFault_1 : EnvOk Tryz.prog G_slices_ContainsFunc_impl_Page_of_impl_stepFault_1 := (env_cons s_slices_IndexFunc_impl_Page_of_impl_stepFault_1 env_nil)
theorem r_slices_ContainsFunc_impl_Page_of_impl_stepFault_1 (x) : runFn T G_slices_ContainsFunc_impl_Page_of_impl_stepFault_1 [] Tryz.f137 P_slices_ContainsFunc_impl_Page_of_impl_stepFault_1 R_slices_ContainsFunc_impl_Page_of_impl_stepFault_1 x = F_slices_ContainsFunc_impl_Page_of_impl_stepFault_1 x := by kernel_rfl
theorem s_slices_ContainsFunc_impl_Page_of_impl_stepFault_1 : CallsOk Tryz.prog 137 C_slices_ContainsFunc_impl_Page_of_impl_stepFault_1 :=
  fn_calls (L := []) hT g_slices_ContainsFunc_impl_Page_of_impl_stepFault_1 Tryz.f137 (by kernel_rfl) (by kernel_rfl) (by kernel_rfl) (plain_ok (by kernel_rfl)) r_slices_ContainsFunc_impl_Page_of_impl_stepFault_1
/-! impl.stepFault -/
abbrev P_impl_stepFault : List PK := [.val Y25, .val Y27, .val Y24]
abbrev R_impl_stepFault : List VK := [.s (.dat YI)]
def F_impl_stepFault (x : denP P_impl_stepFault) : Option (denV R_impl_stepFault × denQ P_impl_stepFault) :=
  (F_impl_HartFault (x.1, ())).bind fun r1 =>
  (F_impl_PagesFault (x.2.1, (24 : Int), ())).bind fun r2 =>
  (F_impl_firstOf ([r1.1.1, r2.1.1], ())).bind fun r3 =>
  if (r3.1.1 != (0 : Int)) then
    some ((r3.1.1, ()), ())
  else
    let v4 := ((x.2.2.1.length : Nat) : Int)
    let v5 := (IntKind.i64.wrap ((v4).tdiv (8 : Int)))
    (F_impl_MemoryFault (x.2.2.1, ())).bind fun r6 =>
    if (r6.1.1 != (0 : Int)) = false then
      (F_slices_ContainsFunc_impl_Page_of_impl_stepFault_1 (x.2.1, (v5, ()), ())).bind fun r7 =>
      if r7.1.1 then
        some (((1 : Int), ()), ())
      else
        some (((0 : Int), ()), ())
    else
      some (((1 : Int), ()), ())
abbrev C_impl_stepFault : Con := ⟨P_impl_stepFault, R_impl_stepFault, F_impl_stepFault, false⟩
abbrev G_impl_stepFault : Env := [(20, C_impl_HartFault), (21, C_impl_MemoryFault), (87, C_impl_firstOf), (136, C_impl_PagesFault), (137, C_slices_ContainsFunc_impl_Page_of_impl_stepFault_1)]
theorem g_impl_stepFault : EnvOk Tryz.prog G_impl_stepFault := (env_cons s_impl_HartFault (env_cons s_impl_MemoryFault (env_cons s_impl_firstOf (env_cons s_impl_PagesFault (env_cons s_slices_ContainsFunc_impl_Page_of_impl_stepFault_1 env_nil)))))
theorem r_impl_stepFault (x) : runFn T G_impl_stepFault [] Tryz.f55 P_impl_stepFault R_impl_stepFault x = F_impl_stepFault x := by kernel_rfl
theorem s_impl_stepFault : CallsOk Tryz.prog 55 C_impl_stepFault :=
  fn_calls (L := []) hT g_impl_stepFault Tryz.f55 (by kernel_rfl) (by kernel_rfl) (by kernel_rfl) (plain_ok (by kernel_rfl)) r_impl_stepFault
/-! slices.Clone[int64,int64] -/
abbrev P_slices_Clone_int64 : List PK := [.val Y24]
abbrev R_slices_Clone_int64 : List VK := [.s (.own 2 YI)]
def F_slices_Clone_int64 (x : denP P_slices_Clone_int64) : Option (denV R_slices_Clone_int64 × denQ P_slices_Clone_int64) :=
  if (([] : List (den YI)).length + x.1.length) * 8 ≤ 140737488355328 then some (([] ++ x.1, ()), ()) else none
abbrev C_slices_Clone_int64 : Con := ⟨P_slices_Clone_int64, R_slices_Clone_int64, F_slices_Clone_int64, false⟩
theorem s_slices_Clone_int64 : CallsOk Tryz.prog 139 C_slices_Clone_int64 :=
  nil_first hT (fn := Tryz.f139) (cn := C_slices_Clone_int64) (c0 := nav Tryz.f139 [0]) (ca := nav Tryz.f139 [1, 0, 1, 0]) (cb := nav Tryz.f139 [1, 1]) (id := 1) (d := 4) (nm := 1032000) (o1 := navOp Tryz.f139 [1, 0, 0] 0) (o2 := navOp Tryz.f139 [1, 0, 0] 1)
    (t := 24) (t' := 24) (x := .tmp 3) (r := ⟨Y24, [], 2, 24, 0⟩) (u := YI) (by kernel_rfl) (by kernel_rfl) (by kernel_rfl) ⟨by kernel_rfl, by kernel_rfl⟩ (fun y => by kernel_rfl) (by kernel_rfl) (by kernel_rfl) (by kernel_rfl) (by kernel_rfl) (by kernel_rfl) rfl
    (fun y => (st0 Tryz.f139 P_slices_Clone_int64 y).set 2 (.s .nls)) (fun y => ((st0 Tryz.f139 P_slices_Clone_int64 y).set 2 (.s .nls)).set 3 (.s (.d (.slice YI) y.1))) (fun y => y.1)
    (fun y => by kernel_rfl) (fun y => by kernel_rfl) (fun y => by kernel_rfl) (fun y => Nat.le_of_ble_eq_true (by kernel_rfl)) (fun y => by kernel_rfl) (by kernel_rfl) (by kernel_rfl) (by kernel_rfl) (fun y => by kernel_rfl)
    (fun y h => by obtain ⟨l, v⟩ := y; have h : l = [] := h; subst h; show run _ _ _ _ _ _ = F_slices_Clone_int64 ([], v); kernel_rfl) (fun y => by kernel_rfl)
/-! (impl.Hart).own -/
abbrev P_impl_Hart_own : List PK := [.val Y25]
abbrev R_impl_Hart_own : List VK := [.g [.own 2 YI, .dat YI, .own 2 YI, .dat .bool, .dat .bool, .dat .bool, .dat YI, .own 2 YI, .own 2 YI]]
def F_impl_Hart_own (x : denP P_impl_Hart_own) : Option (denV R_impl_Hart_own × denQ P_impl_Hart_own) :=
  (F_slices_Clone_int64 (x.1.1, ())).bind fun r1 =>
  (F_slices_Clone_int64 (x.1.2.2.1, ())).bind fun r2 =>
  (F_slices_Clone_int64 (x.1.2.2.2.2.2.2.2.1, ())).bind fun r3 =>
  (F_slices_Clone_int64 (x.1.2.2.2.2.2.2.2.2.1, ())).bind fun r4 =>
  some (((r1.1.1, (x.1.2.1, (r2.1.1, (x.1.2.2.2.1, (x.1.2.2.2.2.1, (x.1.2.2.2.2.2.1, (x.1.2.2.2.2.2.2.1, (r3.1.1, (r4.1.1, ()))))))))), ()), ())
abbrev C_impl_Hart_own : Con := ⟨P_impl_Hart_own, R_impl_Hart_own, F_impl_Hart_own, false⟩
abbrev G_impl_Hart_own : Env := [(139, C_slices_Clone_int64)]
theorem g_impl_Hart_own : EnvOk Tryz.prog G_impl_Hart_own := (env_cons s_slices_Clone_int64 env_nil)
theorem r_impl_Hart_own (x) : runFn T G_impl_Hart_own [] Tryz.f83 P_impl_Hart_own R_impl_Hart_own x = F_impl_Hart_own x := by kernel_rfl
theorem s_impl_Hart_own : CallsOk Tryz.prog 83 C_impl_Hart_own :=
  fn_calls (L := []) hT g_impl_Hart_own Tryz.f83 (by kernel_rfl) (by kernel_rfl) (by kernel_rfl) (plain_ok (by kernel_rfl)) r_impl_Hart_own
/-! (*impl.Hart).pending -/
abbrev P_impl_Hart_pending : List PK := [.ptr Y25]
abbrev R_impl_Hart_pending : List VK := [.s (.dat YI)]
def F_impl_Hart_pending (x : denP P_impl_Hart_pending) : Option (denV R_impl_Hart_pending × denQ P_impl_Hart_pending) :=
  ((x.1.2.2.1)[((9 : Int)).toNat]?).bind fun y1 =>
  if (y1 != (0 : Int)) = true then
    ((x.1.2.2.1)[((9 : Int)).toNat]?).bind fun y2 =>
    if (leI y2 x.1.2.2.2.2.2.2.1) then
      let v3 := (ior .i64 (0 : Int) (1 : Int))
      if x.1.2.2.2.2.2.1 then
        let v4 := (ior .i64 v3 (2 : Int))
        let v5 := ((x.1.2.2.2.2.2.2.2.1.length : Nat) : Int)
        if (ltI (0 : Int) v5) then
          let v6 := (ior .i64 v4 (4 : Int))
          some ((v6, ()), ())
        else
          some ((v4, ()), ())
      else
        let v7 := ((x.1.2.2.2.2.2.2.2.1.length : Nat) : Int)
        if (ltI (0 : Int) v7) then
          let v8 := (ior .i64 v3 (4 : Int))
          some ((v8, ()), ())
        else
          some ((v3, ()), ())
    else
      if x.1.2.2.2.2.2.1 then
        let v9 := (ior .i64 (0 : Int) (2 : Int))
        let v10 := ((x.1.2.2.2.2.2.2.2.1.length : Nat) : Int)
        if (ltI (0 : Int) v10) then
          let v11 := (ior .i64 v9 (4 : Int))
          some ((v11, ()), ())
        else
          some ((v9, ()), ())
      else
        let v12 := ((x.1.2.2.2.2.2.2.2.1.length : Nat) : Int)
        if (ltI (0 : Int) v12) then
          let v13 := (ior .i64 (0 : Int) (4 : Int))
          some ((v13, ()), ())
        else
          some (((0 : Int), ()), ())
  else
    if x.1.2.2.2.2.2.1 then
      let v14 := (ior .i64 (0 : Int) (2 : Int))
      let v15 := ((x.1.2.2.2.2.2.2.2.1.length : Nat) : Int)
      if (ltI (0 : Int) v15) then
        let v16 := (ior .i64 v14 (4 : Int))
        some ((v16, ()), ())
      else
        some ((v14, ()), ())
    else
      let v17 := ((x.1.2.2.2.2.2.2.2.1.length : Nat) : Int)
      if (ltI (0 : Int) v17) then
        let v18 := (ior .i64 (0 : Int) (4 : Int))
        some ((v18, ()), ())
      else
        some (((0 : Int), ()), ())
abbrev C_impl_Hart_pending : Con := ⟨P_impl_Hart_pending, R_impl_Hart_pending, F_impl_Hart_pending, false⟩
abbrev G_impl_Hart_pending : Env := []
theorem g_impl_Hart_pending : EnvOk Tryz.prog G_impl_Hart_pending := env_nil
theorem r_impl_Hart_pending (x) : runFn T G_impl_Hart_pending [] Tryz.f158 P_impl_Hart_pending R_impl_Hart_pending x = F_impl_Hart_pending x := by kernel_rfl
theorem s_impl_Hart_pending : CallsOk Tryz.prog 158 C_impl_Hart_pending :=
  fn_calls (L := []) hT g_impl_Hart_pending Tryz.f158 (by kernel_rfl) (by kernel_rfl) (by kernel_rfl) (plain_ok (by kernel_rfl)) r_impl_Hart_pending
/-! math/bits.TrailingZeros64 -/
abbrev P_math_bits_TrailingZeros64 : List PK := [.val (.int .u64)]
abbrev R_math_bits_TrailingZeros64 : List VK := [.s (.dat YI)]
def tzF (n : Int) : Option Int := if n = 1 ∨ n = 3 ∨ n = 5 ∨ n = 7 then some 0 else if n = 2 ∨ n = 6 then some 1 else if n = 4 then some 2 else none
def F_math_bits_TrailingZeros64 (x : denP P_math_bits_TrailingZeros64) : Option (denV R_math_bits_TrailingZeros64 × denQ P_math_bits_TrailingZeros64) := match tzF x.1 with | some z => some ((z, ()), ()) | none => none
abbrev C_math_bits_TrailingZeros64 : Con := ⟨P_math_bits_TrailingZeros64, R_math_bits_TrailingZeros64, F_math_bits_TrailingZeros64, false⟩
theorem w_math_bits_TrailingZeros64 (n : Int) (k : Nat) (z : Int) (hn : (n == 0) = false) (w : World) (hr : 0 ≤ IntKind.u64.wrap (bits BinOp.and IntKind.u64 n (IntKind.u64.wrap (-n)) * 285870213051353865) / 288230376151711744 ∧ IntKind.u64.wrap (bits BinOp.and IntKind.u64 n (IntKind.u64.wrap (-n)) * 285870213051353865) / 288230376151711744 < 64)
    (he : (IntKind.u64.wrap (bits BinOp.and IntKind.u64 n (IntKind.u64.wrap (-n)) * 285870213051353865) / 288230376151711744).toNat = k)
    (h : w.cell? { block := 0, off := k } = some (.int .u8 z)) (hz : IntKind.i64.wrap z = z) : Calls Tryz.prog 159 #[.int .u64 n] w fun e' w' => e' = .returned (.int .i64 z) ∧ w' = w := by
  go_enter Tryz.func159, Tryz.ntmps159
  go_wp2
  all_goals first | (go_ret; exact ⟨rfl, rfl⟩) | exact absurd hr ‹¬ _› | simp_all
theorem v_math_bits_TrailingZeros64 {n z : Int} (h : tzF n = some z) {M : Nat → Nat → Prop} {w : World} (hl : Laid M w) : Calls Tryz.prog 159 #[.int .u64 n] w fun e' w' => e' = .returned (.int .i64 z) ∧ w' = w := by
  have hg : ∀ i v, (0, i, v) ∈ GL → w.cell? { block := 0, off := i } = some v := by
    intro i v hm
    obtain ⟨⟨c, e, fz, h1, h2⟩, _⟩ := hl _ hm
    simp only at h1 h2
    simp [World.cell?, h1, h2]
  have g0 := hg 0 (.int .u8 0) (by simp [GL])
  have g1 := hg 1 (.int .u8 1) (by simp [GL])
  have g3 := hg 3 (.int .u8 2) (by simp [GL])
  have key : ((n = 1 ∨ n = 3 ∨ n = 5 ∨ n = 7) ∧ z = 0) ∨ ((n = 2 ∨ n = 6) ∧ z = 1) ∨ (n = 4 ∧ z = 2) := by
    unfold tzF at h
    split at h
    · exact .inl ⟨‹_›, (Option.some.inj h).symm⟩
    · split at h
      · exact .inr (.inl ⟨‹_›, (Option.some.inj h).symm⟩)
      · split at h
        · exact .inr (.inr ⟨‹_›, (Option.some.inj h).symm⟩)
        · cases h
  clear h
  rcases key with ⟨h | h | h | h, rfl⟩ | ⟨h | h, rfl⟩ | ⟨h, rfl⟩ <;> subst h
  all_goals first
    | exact w_math_bits_TrailingZeros64 _ 0 _ (by decide) w (by decide +kernel) (by decide +kernel) g0 (by decide +kernel)
    | exact w_math_bits_TrailingZeros64 _ 1 _ (by decide) w (by decide +kernel) (by decide +kernel) g1 (by decide +kernel)
    | exact w_math_bits_TrailingZeros64 _ 3 _ (by decide) w (by decide +kernel) (by decide +kernel) g3 (by decide +kernel)
theorem u_math_bits_TrailingZeros64 : Sound Tryz.prog 159 C_math_bits_TrailingZeros64 := by
  intro x y hx w args S Q B M F hp ha _
  obtain ⟨v, vs', rfl, ⟨cs, h1, h2⟩, rfl, rfl⟩ := ha
  have e1 : v = .int .u64 x.1 := by
    have h1 : cs = [v] := h1
    subst h1
    simpa [Rp] using h2
  subst e1
  have hx : F_math_bits_TrailingZeros64 x = some y := hx
  unfold F_math_bits_TrailingZeros64 at hx
  split at hx
  · rename_i z hz
    obtain rfl := Option.some.inj hx
    refine (v_math_bits_TrailingZeros64 hz hp.laid).mono fun r w' h => ?_
    obtain ⟨rfl, rfl⟩ := h
    refine ⟨_, rfl, Kept.refl M w', [.int .i64 z], [], [], rfl, ⟨_, [], [], [], rfl, rfl, ⟨⟨[.int .i64 z], rfl, rfl⟩, rfl⟩, rfl, rfl⟩, ⟨_, [], rfl, rfl, rfl⟩, List.nodup_nil, fun b hb => by cases hb⟩
  · cases hx
theorem s_math_bits_TrailingZeros64 : CallsOk Tryz.prog 159 C_math_bits_TrailingZeros64 := (u_math_bits_TrailingZeros64).ok (enter_ok Tryz.func159 (by decide +kernel) (by kernel_rfl))
/-! (*impl.Hart).due -/
abbrev P_impl_Hart_due : List PK := [.ptr Y25]
abbrev R_impl_Hart_due : List VK := [.s (.dat YI)]
def F_impl_Hart_due (x : denP P_impl_Hart_due) : Option (denV R_impl_Hart_due × denQ P_impl_Hart_due) :=
  (F_impl_Hart_pending (x.1, ())).bind fun r1 =>
  ((x.1.2.2.1)[((7 : Int)).toNat]?).bind fun y2 =>
  let v3 := (iand .i64 r1.1.1 y2)
  ((x.1.2.2.1)[((0 : Int)).toNat]?).bind fun y4 =>
  let v5 := ((y4).tmod (2 : Int))
  if (v5 == (0 : Int)) = false then
    if (v3 == (0 : Int)) then
      some (((-1 : Int), ()), ())
    else
      let v6 := (IntKind.u64.wrap v3)
      (F_math_bits_TrailingZeros64 (v6, ())).bind fun r7 =>
      some ((r7.1.1, ()), ())
  else
    some (((-1 : Int), ()), ())
abbrev C_impl_Hart_due : Con := ⟨P_impl_Hart_due, R_impl_Hart_due, F_impl_Hart_due, false⟩
abbrev G_impl_Hart_due : Env := [(158, C_impl_Hart_pending), (159, C_math_bits_TrailingZeros64)]
theorem g_impl_Hart_due : EnvOk Tryz.prog G_impl_Hart_due := (env_cons s_impl_Hart_pending (env_cons s_math_bits_TrailingZeros64 env_nil))
theorem r_impl_Hart_due (x) : runFn T G_impl_Hart_due [] Tryz.f67 P_impl_Hart_due R_impl_Hart_due x = F_impl_Hart_due x := by kernel_rfl
theorem s_impl_Hart_due : CallsOk Tryz.prog 67 C_impl_Hart_due :=
  fn_calls (L := []) hT g_impl_Hart_due Tryz.f67 (by kernel_rfl) (by kernel_rfl) (by kernel_rfl) (plain_ok (by kernel_rfl)) r_impl_Hart_due
/-! (*impl.Hart).trap -/
abbrev P_impl_Hart_trap : List PK := [.box [.own 2 YI, .dat YI, .own 2 YI, .dat .bool, .dat .bool, .dat .bool, .dat YI, .own 2 YI, .own 2 YI] [.own 2 YI, .dat YI, .own 2 YI, .dat .bool, .dat .bool, .dat .bool, .dat YI, .own 2 YI, .own 2 YI], .val YI, .val YI]
abbrev R_impl_Hart_trap : List VK := []
def F_impl_Hart_trap (x : denP P_impl_Hart_trap) : Option (denV R_impl_Hart_trap × denQ P_impl_Hart_trap) :=
  if 0 ≤ (2 : Int) ∧ (2 : Int) < ((x.1.2.2.1.length : Nat) : Int) then
    ((x.1.2.2.1)[((2 : Int)).toNat]?).bind fun y1 =>
    let v2 := (x.1.2.2.1.set ((2 : Int)).toNat x.1.2.1)
    if 0 ≤ (3 : Int) ∧ (3 : Int) < ((v2.length : Nat) : Int) then
      ((v2)[((3 : Int)).toNat]?).bind fun y3 =>
      let v4 := (v2.set ((3 : Int)).toNat x.2.1)
      if 0 ≤ (4 : Int) ∧ (4 : Int) < ((v4.length : Nat) : Int) then
        ((v4)[((4 : Int)).toNat]?).bind fun y5 =>
        let v6 := (v4.set ((4 : Int)).toNat x.2.2.1)
        if 0 ≤ (0 : Int) ∧ (0 : Int) < ((v6.length : Nat) : Int) then
          ((v6)[((0 : Int)).toNat]?).bind fun y7 =>
          let v8 := ((y7).tmod (2 : Int))
          let v9 := (IntKind.i64.wrap (v8 * (2 : Int)))
          if 0 ≤ (0 : Int) ∧ (0 : Int) < ((v6.length : Nat) : Int) then
            ((v6)[((0 : Int)).toNat]?).bind fun y10 =>
            let v11 := (v6.set ((0 : Int)).toNat v9)
            if 0 ≤ (1 : Int) ∧ (1 : Int) < ((v11.length : Nat) : Int) then
              ((v11)[((1 : Int)).toNat]?).bind fun y12 =>
              some ((), ((x.1.1, (y12, (v11, (x.1.2.2.2.1, (false, (x.1.2.2.2.2.2.1, (x.1.2.2.2.2.2.2.1, (x.1.2.2.2.2.2.2.2.1, (x.1.2.2.2.2.2.2.2.2.1, ()))))))))), ()))
            else none
          else none
        else none
      else none
    else none
  else none
abbrev C_impl_Hart_trap : Con := ⟨P_impl_Hart_trap, R_impl_Hart_trap, F_impl_Hart_trap, false⟩
abbrev G_impl_Hart_trap : Env := []
theorem g_impl_Hart_trap : EnvOk Tryz.prog G_impl_Hart_trap := env_nil
theorem r_impl_Hart_trap (x) : runFn T G_impl_Hart_trap [] Tryz.f261 P_impl_Hart_trap R_impl_Hart_trap x = F_impl_Hart_trap x := by kernel_rfl
theorem s_impl_Hart_trap : CallsOk Tryz.prog 261 C_impl_Hart_trap :=
  fn_calls (L := []) hT g_impl_Hart_trap Tryz.f261 (by kernel_rfl) (by kernel_rfl) (by kernel_rfl) (plain_ok (by kernel_rfl)) r_impl_Hart_trap
/-! (*impl.core).fail -/
abbrev P_impl_core_fail : List PK := [.box [.own 2 YI, .dat YI, .own 2 YI, .dat .bool, .dat .bool, .dat .bool, .dat YI, .own 2 YI, .own 2 YI, .dat Y27, .own 2 YI, .dat YI, .dat YI] [.own 2 YI, .dat YI, .own 2 YI, .dat .bool, .dat .bool, .dat .bool, .dat YI, .own 2 YI, .own 2 YI, .dat Y27, .own 2 YI, .dat YI, .dat YI], .val YI, .val YI]
abbrev R_impl_core_fail : List VK := []
def F_impl_core_fail (x : denP P_impl_core_fail) : Option (denV R_impl_core_fail × denQ P_impl_core_fail) :=
  (F_impl_Hart_trap ((x.1.1, (x.1.2.1, (x.1.2.2.1, (x.1.2.2.2.1, (x.1.2.2.2.2.1, (x.1.2.2.2.2.2.1, (x.1.2.2.2.2.2.2.1, (x.1.2.2.2.2.2.2.2.1, (x.1.2.2.2.2.2.2.2.2.1, ()))))))))), x.2.1, x.2.2.1, ())).bind fun r1 =>
  some ((), ((r1.2.1.1, (r1.2.1.2.1, (r1.2.1.2.2.1, (r1.2.1.2.2.2.1, (r1.2.1.2.2.2.2.1, (r1.2.1.2.2.2.2.2.1, (r1.2.1.2.2.2.2.2.2.1, (r1.2.1.2.2.2.2.2.2.2.1, (r1.2.1.2.2.2.2.2.2.2.2.1, (x.1.2.2.2.2.2.2.2.2.2.1, (x.1.2.2.2.2.2.2.2.2.2.2.1, (x.2.1, (x.1.2.2.2.2.2.2.2.2.2.2.2.2.1, ()))))))))))))), ()))
abbrev C_impl_core_fail : Con := ⟨P_impl_core_fail, R_impl_core_fail, F_impl_core_fail, false⟩
abbrev G_impl_core_fail : Env := [(261, C_impl_Hart_trap)]
theorem g_impl_core_fail : EnvOk Tryz.prog G_impl_core_fail := (env_cons s_impl_Hart_trap env_nil)
theorem r_impl_core_fail (x) : runFn T G_impl_core_fail [] Tryz.f215 P_impl_core_fail R_impl_core_fail x = F_impl_core_fail x := by kernel_rfl
theorem s_impl_core_fail : CallsOk Tryz.prog 215 C_impl_core_fail :=
  fn_calls (L := []) hT g_impl_core_fail Tryz.f215 (by kernel_rfl) (by kernel_rfl) (by kernel_rfl) (plain_ok (by kernel_rfl)) r_impl_core_fail
/-! impl.pageOf -/
abbrev P_impl_pageOf : List PK := [.val Y24, .val YI]
abbrev R_impl_pageOf : List VK := [.s (.own 2 YI)]
def F_impl_pageOf (x : denP P_impl_pageOf) : Option (denV R_impl_pageOf × denQ P_impl_pageOf) :=
  let v1 := (IntKind.i64.wrap (x.2.1 * (8 : Int)))
  let v2 := (IntKind.i64.wrap (x.2.1 + (1 : Int)))
  let v3 := (IntKind.i64.wrap (v2 * (8 : Int)))
  if 0 ≤ v1 ∧ v1 ≤ v3 ∧ v3 ≤ ((x.1.length : Nat) : Int) then
    let v4 := ((x.1.drop (v1).toNat).take ((v3).toNat - (v1).toNat))
    (F_slices_Clone_int64 (v4, ())).bind fun r5 =>
    some ((r5.1.1, ()), ())
  else none
abbrev C_impl_pageOf : Con := ⟨P_impl_pageOf, R_impl_pageOf, F_impl_pageOf, false⟩
abbrev G_impl_pageOf : Env := [(139, C_slices_Clone_int64)]
theorem g_impl_pageOf : EnvOk Tryz.prog G_impl_pageOf := (env_cons s_slices_Clone_int64 env_nil)
theorem r_impl_pageOf (x) : runFn T G_impl_pageOf [] Tryz.f80 P_impl_pageOf R_impl_pageOf x = F_impl_pageOf x := by kernel_rfl
theorem s_impl_pageOf : CallsOk Tryz.prog 80 C_impl_pageOf :=
  fn_calls (L := []) hT g_impl_pageOf Tryz.f80 (by kernel_rfl) (by kernel_rfl) (by kernel_rfl) (plain_ok (by kernel_rfl)) r_impl_pageOf
/-! impl.nowhere -/
abbrev P_impl_nowhere : List PK := []
abbrev R_impl_nowhere : List VK := [.s (.dat Y40)]
def F_impl_nowhere (x : denP P_impl_nowhere) : Option (denV R_impl_nowhere × denQ P_impl_nowhere) :=
  some ((((-1 : Int), ((0 : Int), ())), ()), ())
abbrev C_impl_nowhere : Con := ⟨P_impl_nowhere, R_impl_nowhere, F_impl_nowhere, false⟩
abbrev G_impl_nowhere : Env := []
theorem g_impl_nowhere : EnvOk Tryz.prog G_impl_nowhere := env_nil
theorem r_impl_nowhere (x) : runFn T G_impl_nowhere [] Tryz.f174 P_impl_nowhere R_impl_nowhere x = F_impl_nowhere x := by kernel_rfl
theorem s_impl_nowhere : CallsOk Tryz.prog 174 C_impl_nowhere :=
  fn_calls (L := []) hT g_impl_nowhere Tryz.f174 (by kernel_rfl) (by kernel_rfl) (by kernel_rfl) (plain_ok (by kernel_rfl)) r_impl_nowhere
/-! impl.entryOf -/
abbrev P_impl_entryOf : List PK := [.val YI]
abbrev R_impl_entryOf : List VK := [.s (.dat Y40)]
def F_impl_entryOf (x : denP P_impl_entryOf) : Option (denV R_impl_entryOf × denQ P_impl_entryOf) :=
  let v1 := (IntKind.i64.wrap ((x.1).tdiv (8 : Int)))
  let v2 := ((x.1).tmod (8 : Int))
  if (v2 == (0 : Int)) = false then
    if (leI (8 : Int) v1) then
      (F_impl_nowhere ()).bind fun r3 =>
      some ((r3.1.1, ()), ())
    else
      some (((v1, (v2, ())), ()), ())
  else
    (F_impl_nowhere ()).bind fun r4 =>
    some ((r4.1.1, ()), ())
abbrev C_impl_entryOf : Con := ⟨P_impl_entryOf, R_impl_entryOf, F_impl_entryOf, false⟩
abbrev G_impl_entryOf : Env := [(174, C_impl_nowhere)]
theorem g_impl_entryOf : EnvOk Tryz.prog G_impl_entryOf := (env_cons s_impl_nowhere env_nil)
theorem r_impl_entryOf (x) : runFn T G_impl_entryOf [] Tryz.f281 P_impl_entryOf R_impl_entryOf x = F_impl_entryOf x := by kernel_rfl
theorem s_impl_entryOf : CallsOk Tryz.prog 281 C_impl_entryOf :=
  fn_calls (L := []) hT g_impl_entryOf Tryz.f281 (by kernel_rfl) (by kernel_rfl) (by kernel_rfl) (plain_ok (by kernel_rfl)) r_impl_entryOf
end Go.Proofs.YtajnommlfjfgpaaGreatDoor
