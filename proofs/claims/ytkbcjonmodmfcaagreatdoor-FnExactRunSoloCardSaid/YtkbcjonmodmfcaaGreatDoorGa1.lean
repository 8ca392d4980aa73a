/- The functions of the laws, each as a plain function of data (F), and that the program's text does what F says. Printed by a program (wip/tools/gen.py). -/
import Derived.Test.YtkbcjonmodmfcaaGreatDoorGt
namespace Go.Proofs.YtkbcjonmodmfcaaGreatDoor
open Go Go.RowKit S Go.Proofs
set_option maxRecDepth 100000
set_option linter.unusedVariables false
/-! laws.szInt64S -/
abbrev P_laws_szInt64S : List PK := [.val Y22, .val YI]
abbrev R_laws_szInt64S : List VK := [.s (.dat YI)]
def F_laws_szInt64S (x : denP P_laws_szInt64S) : Option (denV R_laws_szInt64S × denQ P_laws_szInt64S) :=
  let v1 := ((x.1.length : Nat) : Int)
  let v2 := (IntKind.i64.wrap (x.2.1 - v1))
  if (ltI v2 (0 : Int)) then
    some (((-1 : Int), ()), ())
  else
    some ((v2, ()), ())
abbrev C_laws_szInt64S : Con := ⟨P_laws_szInt64S, R_laws_szInt64S, F_laws_szInt64S, false⟩
abbrev G_laws_szInt64S : Env := []
theorem g_laws_szInt64S : EnvOk Tryz.prog G_laws_szInt64S := env_nil
theorem r_laws_szInt64S (x) : runFn T G_laws_szInt64S [] Tryz.f57 P_laws_szInt64S R_laws_szInt64S x = F_laws_szInt64S x := by kernel_rfl
theorem s_laws_szInt64S : CallsOk Tryz.prog 57 C_laws_szInt64S :=
  fn_calls (L := []) hT g_laws_szInt64S Tryz.f57 (by kernel_rfl) (by kernel_rfl) (by kernel_rfl) (plain_ok (by kernel_rfl)) r_laws_szInt64S
/-! laws.szHart -/
abbrev P_laws_szHart : List PK := [.val Y23, .val YI]
abbrev R_laws_szHart : List VK := [.s (.dat YI)]
def F_laws_szHart (x : denP P_laws_szHart) : Option (denV R_laws_szHart × denQ P_laws_szHart) :=
  (F_laws_szInt64S (x.1.1, x.2.1, ())).bind fun r1 =>
  if (ltI r1.1.1 (0 : Int)) then
    some (((-1 : Int), ()), ())
  else
    (F_laws_szInt64S (x.1.2.2.1, r1.1.1, ())).bind fun r2 =>
    if (ltI r2.1.1 (0 : Int)) then
      some (((-1 : Int), ()), ())
    else
      (F_laws_szInt64S (x.1.2.2.2.2.2.2.2.1, r2.1.1, ())).bind fun r3 =>
      if (ltI r3.1.1 (0 : Int)) then
        some (((-1 : Int), ()), ())
      else
        (F_laws_szInt64S (x.1.2.2.2.2.2.2.2.2.1, r3.1.1, ())).bind fun r4 =>
        if (ltI r4.1.1 (0 : Int)) then
          some (((-1 : Int), ()), ())
        else
          some ((r4.1.1, ()), ())
abbrev C_laws_szHart : Con := ⟨P_laws_szHart, R_laws_szHart, F_laws_szHart, false⟩
abbrev G_laws_szHart : Env := [(57, C_laws_szInt64S)]
theorem g_laws_szHart : EnvOk Tryz.prog G_laws_szHart := (env_cons s_laws_szInt64S env_nil)
theorem r_laws_szHart (x) : runFn T G_laws_szHart [] Tryz.f10 P_laws_szHart R_laws_szHart x = F_laws_szHart x := by kernel_rfl
theorem s_laws_szHart : CallsOk Tryz.prog 10 C_laws_szHart :=
  fn_calls (L := []) hT g_laws_szHart Tryz.f10 (by kernel_rfl) (by kernel_rfl) (by kernel_rfl) (plain_ok (by kernel_rfl)) r_laws_szHart
/-! laws.szPageS -/
abbrev P_laws_szPageS : List PK := [.val Y25, .val YI]
abbrev R_laws_szPageS : List VK := [.s (.dat YI)]
def F_laws_szPageS (x : denP P_laws_szPageS) : Option (denV R_laws_szPageS × denQ P_laws_szPageS) :=
  let v1 := ((x.1.length : Nat) : Int)
  let v2 := (IntKind.i64.wrap (x.2.1 - v1))
  if (ltI v2 (0 : Int)) then
    some (((-1 : Int), ()), ())
  else
    some ((v2, ()), ())
abbrev C_laws_szPageS : Con := ⟨P_laws_szPageS, R_laws_szPageS, F_laws_szPageS, false⟩
abbrev G_laws_szPageS : Env := []
theorem g_laws_szPageS : EnvOk Tryz.prog G_laws_szPageS := env_nil
theorem r_laws_szPageS (x) : runFn T G_laws_szPageS [] Tryz.f11 P_laws_szPageS R_laws_szPageS x = F_laws_szPageS x := by kernel_rfl
theorem s_laws_szPageS : CallsOk Tryz.prog 11 C_laws_szPageS :=
  fn_calls (L := []) hT g_laws_szPageS Tryz.f11 (by kernel_rfl) (by kernel_rfl) (by kernel_rfl) (plain_ok (by kernel_rfl)) r_laws_szPageS
/-! laws.toInt64S -/
abbrev P_laws_toInt64S : List PK := [.val Y22]
abbrev R_laws_toInt64S : List VK := [.s (.own 2 YI)]
abbrev i_laws_toInt64S_3 : Shp := { slots := [(0, .s (.dat Y22)), (3, .s (.own 2 YI)), (4, .s (.dat YI))], boxes := [], rows := [] }
abbrev o_laws_toInt64S_3 : List (Ex × Shp) := [(.exit 0, { slots := [(3, .s (.own 2 YI))], boxes := [], rows := [] })]
def l_laws_toInt64S_3 (rec : i_laws_toInt64S_3.den → Option (denO o_laws_toInt64S_3)) (u3 : i_laws_toInt64S_3.den) : Option (denO o_laws_toInt64S_3) :=
  let v4 := ((u3.1.1.length : Nat) : Int)
  if (ltI u3.1.2.2.1 v4) then
    if 0 ≤ u3.1.2.2.1 then
      ((u3.1.1)[(u3.1.2.2.1).toNat]?).bind fun y5 =>
      if 0 ≤ u3.1.2.2.1 ∧ u3.1.2.2.1 < ((u3.1.2.1.length : Nat) : Int) then
        ((u3.1.2.1)[(u3.1.2.2.1).toNat]?).bind fun y6 =>
        let v7 := (u3.1.2.1.set (u3.1.2.2.1).toNat y5)
        let v8 := (IntKind.i64.wrap (u3.1.2.2.1 + (1 : Int)))
        rec ((u3.1.1, (v7, (v8, ()))), ((), ()))
      else none
    else none
  else
    some (.inl ((u3.1.2.1, ()), ((), ())))
def L_laws_toInt64S_3 (x : i_laws_toInt64S_3.den) : Option (denO o_laws_toInt64S_3) := iterF l_laws_toInt64S_3 lots x
def F_laws_toInt64S (x : denP P_laws_toInt64S) : Option (denV R_laws_toInt64S × denQ P_laws_toInt64S) :=
  let v1 := ((x.1.length : Nat) : Int)
  if v1 = v1 ∧ 0 ≤ v1 ∧ v1 * 8 ≤ 140737488355328 ∧ v1 ≤ 9223372036854775807 then
    (L_laws_toInt64S_3 ((x.1, ((List.replicate (v1).toNat (zeroD YI)), ((0 : Int), ()))), ((), ()))).bind fun z9 =>
    match z9 with
    | .inl x10 =>
      some ((x10.1.1, ()), ())
    | .inr z9_ =>
      none
  else none
abbrev C_laws_toInt64S : Con := ⟨P_laws_toInt64S, R_laws_toInt64S, F_laws_toInt64S, false⟩
abbrev G_laws_toInt64S : Env := []
theorem g_laws_toInt64S : EnvOk Tryz.prog G_laws_toInt64S := env_nil
abbrev c_laws_toInt64S_3 : Cut := ⟨i_laws_toInt64S_3, o_laws_toInt64S_3, fun x => iterF l_laws_toInt64S_3 lots x⟩
theorem t_laws_toInt64S_3 (rec x) : run T G_laws_toInt64S [] (nav Tryz.f15 [1, 1, 0, 1, 0, 0]) (mk 22 i_laws_toInt64S_3 x) (loopK i_laws_toInt64S_3 o_laws_toInt64S_3 rec) = l_laws_toInt64S_3 rec x := by kernel_rfl
theorem k_laws_toInt64S_3 : CutOk Tryz.prog 22 (.loop (nav Tryz.f15 [1, 1, 0, 1, 0, 0])) c_laws_toInt64S_3 :=
  loop_cut (L := []) hT g_laws_toInt64S t_laws_toInt64S_3 (plain_ok (by kernel_rfl)) _
theorem r_laws_toInt64S (x) : runFn T G_laws_toInt64S [(3, c_laws_toInt64S_3)] Tryz.f15 P_laws_toInt64S R_laws_toInt64S x = F_laws_toInt64S x := by kernel_rfl
theorem s_laws_toInt64S : CallsOk Tryz.prog 15 C_laws_toInt64S :=
  fn_calls (L := [(3, c_laws_toInt64S_3)]) hT g_laws_toInt64S Tryz.f15 (by kernel_rfl) (by kernel_rfl) (by kernel_rfl) (seq_ok (plain_ok (by kernel_rfl)) (seq_ok (plain_ok (by kernel_rfl)) (seq_ok (seq_ok (plain_ok (by kernel_rfl)) (block_ok (by kernel_rfl) (loop_ok (by kernel_rfl) k_laws_toInt64S_3))) (plain_ok (by kernel_rfl))))) r_laws_toInt64S
/-! laws.toHart -/
abbrev P_laws_toHart : List PK := [.val Y23]
abbrev R_laws_toHart : List VK := [.g [.own 2 YI, .dat YI, .own 2 YI, .dat .bool, .dat .bool, .dat .bool, .dat YI, .own 2 YI, .own 2 YI]]
def F_laws_toHart (x : denP P_laws_toHart) : Option (denV R_laws_toHart × denQ P_laws_toHart) :=
  (F_laws_toInt64S (x.1.1, ())).bind fun r1 =>
  (F_laws_toInt64S (x.1.2.2.1, ())).bind fun r2 =>
  (F_laws_toInt64S (x.1.2.2.2.2.2.2.2.1, ())).bind fun r3 =>
  (F_laws_toInt64S (x.1.2.2.2.2.2.2.2.2.1, ())).bind fun r4 =>
  some (((r1.1.1, (x.1.2.1, (r2.1.1, (x.1.2.2.2.1, (x.1.2.2.2.2.1, (x.1.2.2.2.2.2.1, (x.1.2.2.2.2.2.2.1, (r3.1.1, (r4.1.1, ()))))))))), ()), ())
abbrev C_laws_toHart : Con := ⟨P_laws_toHart, R_laws_toHart, F_laws_toHart, false⟩
abbrev G_laws_toHart : Env := [(15, C_laws_toInt64S)]
theorem g_laws_toHart : EnvOk Tryz.prog G_laws_toHart := (env_cons s_laws_toInt64S env_nil)
theorem r_laws_toHart (x) : runFn T G_laws_toHart [] Tryz.f13 P_laws_toHart R_laws_toHart x = F_laws_toHart x := by kernel_rfl
theorem s_laws_toHart : CallsOk Tryz.prog 13 C_laws_toHart :=
  fn_calls (L := []) hT g_laws_toHart Tryz.f13 (by kernel_rfl) (by kernel_rfl) (by kernel_rfl) (plain_ok (by kernel_rfl)) r_laws_toHart
/-! laws.toPage -/
abbrev P_laws_toPage : List PK := [.val Y67]
abbrev R_laws_toPage : List VK := [.s (.dat Y67)]
def F_laws_toPage (x : denP P_laws_toPage) : Option (denV R_laws_toPage × denQ P_laws_toPage) :=
  some ((x.1, ()), ())
abbrev C_laws_toPage : Con := ⟨P_laws_toPage, R_laws_toPage, F_laws_toPage, false⟩
abbrev G_laws_toPage : Env := []
theorem g_laws_toPage : EnvOk Tryz.prog G_laws_toPage := env_nil
theorem r_laws_toPage (x) : runFn T G_laws_toPage [] Tryz.f61 P_laws_toPage R_laws_toPage x = F_laws_toPage x := by kernel_rfl
theorem s_laws_toPage : CallsOk Tryz.prog 61 C_laws_toPage :=
  fn_calls (L := []) hT g_laws_toPage Tryz.f61 (by kernel_rfl) (by kernel_rfl) (by kernel_rfl) (plain_ok (by kernel_rfl)) r_laws_toPage
/-! laws.toPageS -/
abbrev P_laws_toPageS : List PK := [.val Y25]
abbrev R_laws_toPageS : List VK := [.s (.own 68 Y67)]
abbrev i_laws_toPageS_3 : Shp := { slots := [(0, .s (.dat Y25)), (3, .s (.own 68 Y67)), (4, .s (.dat YI))], boxes := [], rows := [] }
abbrev o_laws_toPageS_3 : List (Ex × Shp) := [(.exit 0, { slots := [(3, .s (.own 68 Y67))], boxes := [], rows := [] })]
def l_laws_toPageS_3 (rec : i_laws_toPageS_3.den → Option (denO o_laws_toPageS_3)) (u3 : i_laws_toPageS_3.den) : Option (denO o_laws_toPageS_3) :=
  let v5 := ((u3.1.1.length : Nat) : Int)
  if (ltI u3.1.2.2.1 v5) then
    if 0 ≤ u3.1.2.2.1 then
      ((u3.1.1)[(u3.1.2.2.1).toNat]?).bind fun y6 =>
      (F_laws_toPage (y6, ())).bind fun r7 =>
      if 0 ≤ u3.1.2.2.1 ∧ u3.1.2.2.1 < ((u3.1.2.1.length : Nat) : Int) then
        ((u3.1.2.1)[(u3.1.2.2.1).toNat]?).bind fun y8 =>
        let v9 := (u3.1.2.1.set (u3.1.2.2.1).toNat r7.1.1)
        let v10 := (IntKind.i64.wrap (u3.1.2.2.1 + (1 : Int)))
        rec ((u3.1.1, (v9, (v10, ()))), ((), ()))
      else none
    else none
  else
    some (.inl ((u3.1.2.1, ()), ((), ())))
def L_laws_toPageS_3 (x : i_laws_toPageS_3.den) : Option (denO o_laws_toPageS_3) := iterF l_laws_toPageS_3 lots x
def F_laws_toPageS (x : denP P_laws_toPageS) : Option (denV R_laws_toPageS × denQ P_laws_toPageS) :=
  let v1 := ((x.1.length : Nat) : Int)
  if v1 = v1 ∧ 0 ≤ v1 ∧ v1 * 16 ≤ 140737488355328 ∧ v1 ≤ 9223372036854775807 then
    (L_laws_toPageS_3 ((x.1, ((List.replicate (v1).toNat (zeroD Y67)), ((0 : Int), ()))), ((), ()))).bind fun z11 =>
    match z11 with
    | .inl x12 =>
      some ((x12.1.1, ()), ())
    | .inr z11_ =>
      none
  else none
abbrev C_laws_toPageS : Con := ⟨P_laws_toPageS, R_laws_toPageS, F_laws_toPageS, false⟩
abbrev G_laws_toPageS : Env := [(61, C_laws_toPage)]
theorem g_laws_toPageS : EnvOk Tryz.prog G_laws_toPageS := (env_cons s_laws_toPage env_nil)
abbrev c_laws_toPageS_3 : Cut := ⟨i_laws_toPageS_3, o_laws_toPageS_3, fun x => iterF l_laws_toPageS_3 lots x⟩
theorem t_laws_toPageS_3 (rec x) : run T G_laws_toPageS [] (nav Tryz.f14 [1, 1, 0, 1, 0, 0]) (mk 23 i_laws_toPageS_3 x) (loopK i_laws_toPageS_3 o_laws_toPageS_3 rec) = l_laws_toPageS_3 rec x := by kernel_rfl
theorem k_laws_toPageS_3 : CutOk Tryz.prog 23 (.loop (nav Tryz.f14 [1, 1, 0, 1, 0, 0])) c_laws_toPageS_3 :=
  loop_cut (L := []) hT g_laws_toPageS t_laws_toPageS_3 (plain_ok (by kernel_rfl)) _
theorem r_laws_toPageS (x) : runFn T G_laws_toPageS [(3, c_laws_toPageS_3)] Tryz.f14 P_laws_toPageS R_laws_toPageS x = F_laws_toPageS x := by kernel_rfl
theorem s_laws_toPageS : CallsOk Tryz.prog 14 C_laws_toPageS :=
  fn_calls (L := [(3, c_laws_toPageS_3)]) hT g_laws_toPageS Tryz.f14 (by kernel_rfl) (by kernel_rfl) (by kernel_rfl) (seq_ok (plain_ok (by kernel_rfl)) (seq_ok (plain_ok (by kernel_rfl)) (seq_ok (seq_ok (plain_ok (by kernel_rfl)) (block_ok (by kernel_rfl) (loop_ok (by kernel_rfl) k_laws_toPageS_3))) (plain_ok (by kernel_rfl))))) r_laws_toPageS
/-! spec.l1In -/
abbrev P_spec_l1In : List PK := [.val YI, .val YI, .val YI]
abbrev R_spec_l1In : List VK := [.s (.dat .bool)]
def F_spec_l1In (x : denP P_spec_l1In) : Option (denV R_spec_l1In × denQ P_spec_l1In) :=
  if (leI x.2.1 x.1) = true then
    some (((leI x.1 x.2.2.1), ()), ())
  else
    some ((false, ()), ())
abbrev C_spec_l1In : Con := ⟨P_spec_l1In, R_spec_l1In, F_spec_l1In, false⟩
abbrev G_spec_l1In : Env := []
theorem g_spec_l1In : EnvOk Tryz.prog G_spec_l1In := env_nil
theorem r_spec_l1In (x) : runFn T G_spec_l1In [] Tryz.f65 P_spec_l1In R_spec_l1In x = F_spec_l1In x := by kernel_rfl
theorem s_spec_l1In : CallsOk Tryz.prog 65 C_spec_l1In :=
  fn_calls (L := []) hT g_spec_l1In Tryz.f65 (by kernel_rfl) (by kernel_rfl) (by kernel_rfl) (plain_ok (by kernel_rfl)) r_spec_l1In
/-! spec.l8Word -/
abbrev P_spec_l8Word : List PK := [.val YI]
abbrev R_spec_l8Word : List VK := [.s (.dat .bool)]
def F_spec_l8Word (x : denP P_spec_l8Word) : Option (denV R_spec_l8Word × denQ P_spec_l8Word) :=
  (F_spec_l1In (x.1, (0 : Int), (4294967295 : Int), ())).bind fun r1 =>
  some ((r1.1.1, ()), ())
abbrev C_spec_l8Word : Con := ⟨P_spec_l8Word, R_spec_l8Word, F_spec_l8Word, false⟩
abbrev G_spec_l8Word : Env := [(65, C_spec_l1In)]
theorem g_spec_l8Word : EnvOk Tryz.prog G_spec_l8Word := (env_cons s_spec_l1In env_nil)
theorem r_spec_l8Word (x) : runFn T G_spec_l8Word [] Tryz.f154 P_spec_l8Word R_spec_l8Word x = F_spec_l8Word x := by kernel_rfl
theorem s_spec_l8Word : CallsOk Tryz.prog 154 C_spec_l8Word :=
  fn_calls (L := []) hT g_spec_l8Word Tryz.f154 (by kernel_rfl) (by kernel_rfl) (by kernel_rfl) (plain_ok (by kernel_rfl)) r_spec_l8Word
/-! spec.l8All -/
abbrev P_spec_l8All : List PK := [.val Y22]
abbrev R_spec_l8All : List VK := [.s (.dat .bool)]
abbrev i_spec_l8All_2 : Shp := { slots := [(0, .s (.dat Y22)), (3, .s (.dat YI))], boxes := [], rows := [] }
abbrev o_spec_l8All_2 : List (Ex × Shp) := [(.exit 0, { slots := [], boxes := [], rows := [] }), (.ret, { slots := [(2, .s (.dat .bool))], boxes := [], rows := [] })]
def l_spec_l8All_2 (rec : i_spec_l8All_2.den → Option (denO o_spec_l8All_2)) (u2 : i_spec_l8All_2.den) : Option (denO o_spec_l8All_2) :=
  let v3 := ((u2.1.1.length : Nat) : Int)
  if (ltI u2.1.2.1 v3) then
    if 0 ≤ u2.1.2.1 then
      ((u2.1.1)[(u2.1.2.1).toNat]?).bind fun y4 =>
      (F_spec_l8Word (y4, ())).bind fun r5 =>
      if (!r5.1.1) then
        some (.inr (.inl ((false, ()), ((), ()))))
      else
        let v6 := (IntKind.i64.wrap (u2.1.2.1 + (1 : Int)))
        rec ((u2.1.1, (v6, ())), ((), ()))
    else none
  else
    some (.inl ((), ((), ())))
def L_spec_l8All_2 (x : i_spec_l8All_2.den) : Option (denO o_spec_l8All_2) := iterF l_spec_l8All_2 lots x
def F_spec_l8All (x : denP P_spec_l8All) : Option (denV R_spec_l8All × denQ P_spec_l8All) :=
  (L_spec_l8All_2 ((x.1, ((0 : Int), ())), ((), ()))).bind fun z7 =>
  match z7 with
  | .inl x8 =>
    some ((true, ()), ())
  | .inr z7_ =>
    match z7_ with
    | .inl x9 =>
      some ((x9.1.1, ()), ())
    | .inr z7__ =>
      none
abbrev C_spec_l8All : Con := ⟨P_spec_l8All, R_spec_l8All, F_spec_l8All, false⟩
abbrev G_spec_l8All : Env := [(154, C_spec_l8Word)]
theorem g_spec_l8All : EnvOk Tryz.prog G_spec_l8All := (env_cons s_spec_l8Word env_nil)
abbrev c_spec_l8All_2 : Cut := ⟨i_spec_l8All_2, o_spec_l8All_2, fun x => iterF l_spec_l8All_2 lots x⟩
theorem t_spec_l8All_2 (rec x) : run T G_spec_l8All [] (nav Tryz.f153 [1, 0, 1, 0, 0]) (mk 16 i_spec_l8All_2 x) (loopK i_spec_l8All_2 o_spec_l8All_2 rec) = l_spec_l8All_2 rec x := by kernel_rfl
theorem k_spec_l8All_2 : CutOk Tryz.prog 16 (.loop (nav Tryz.f153 [1, 0, 1, 0, 0])) c_spec_l8All_2 :=
  loop_cut (L := []) hT g_spec_l8All t_spec_l8All_2 (plain_ok (by kernel_rfl)) _
theorem r_spec_l8All (x) : runFn T G_spec_l8All [(2, c_spec_l8All_2)] Tryz.f153 P_spec_l8All R_spec_l8All x = F_spec_l8All x := by kernel_rfl
theorem s_spec_l8All : CallsOk Tryz.prog 153 C_spec_l8All :=
  fn_calls (L := [(2, c_spec_l8All_2)]) hT g_spec_l8All Tryz.f153 (by kernel_rfl) (by kernel_rfl) (by kernel_rfl) (seq_ok (plain_ok (by kernel_rfl)) (seq_ok (seq_ok (plain_ok (by kernel_rfl)) (block_ok (by kernel_rfl) (loop_ok (by kernel_rfl) k_spec_l8All_2))) (plain_ok (by kernel_rfl)))) r_spec_l8All
/-! spec.l8Fault -/
abbrev P_spec_l8Fault : List PK := [.ptr Y23]
abbrev R_spec_l8Fault : List VK := [.s (.dat YI)]
def F_spec_l8Fault (x : denP P_spec_l8Fault) : Option (denV R_spec_l8Fault × denQ P_spec_l8Fault) :=
  let v1 := ((x.1.1.length : Nat) : Int)
  if (v1 != (16 : Int)) = false then
    let v2 := ((x.1.2.2.1.length : Nat) : Int)
    if (v2 != (11 : Int)) = false then
      ((x.1.1)[((0 : Int)).toNat]?).bind fun y3 =>
      if (y3 != (0 : Int)) then
        some (((1 : Int), ()), ())
      else
        (F_spec_l8All (x.1.1, ())).bind fun r4 =>
        if (!r4.1.1) = false then
          (F_spec_l8Word (x.1.2.1, ())).bind fun r5 =>
          if (!r5.1.1) = false then
            (F_spec_l8All (x.1.2.2.1, ())).bind fun r6 =>
            if (!r6.1.1) = false then
              (F_spec_l8All (x.1.2.2.2.2.2.2.2.1, ())).bind fun r7 =>
              if (!r7.1.1) = false then
                (F_spec_l8All (x.1.2.2.2.2.2.2.2.2.1, ())).bind fun r8 =>
                if (!r8.1.1) then
                  some (((3 : Int), ()), ())
                else
                  let v9 := ((x.1.2.2.2.2.2.2.2.1.length : Nat) : Int)
                  if (ltI (40 : Int) v9) = false then
                    let v10 := ((x.1.2.2.2.2.2.2.2.2.1.length : Nat) : Int)
                    if (ltI (40 : Int) v10) then
                      some (((2 : Int), ()), ())
                    else
                      (F_spec_l1In (x.1.2.2.2.2.2.2.1, (0 : Int), (1000000000 : Int), ())).bind fun r11 =>
                      if (!r11.1.1) then
                        some (((3 : Int), ()), ())
                      else
                        ((x.1.2.2.1)[((0 : Int)).toNat]?).bind fun y12 =>
                        if (ltI (3 : Int) y12) = false then
                          ((x.1.2.2.1)[((7 : Int)).toNat]?).bind fun y13 =>
                          if (ltI (7 : Int) y13) = false then
                            ((x.1.2.2.1)[((10 : Int)).toNat]?).bind fun y14 =>
                            if (ltI (8 : Int) y14) = false then
                              ((x.1.2.2.1)[((6 : Int)).toNat]?).bind fun y15 =>
                              if (y15 != (0 : Int)) = false then
                                ((x.1.2.2.1)[((8 : Int)).toNat]?).bind fun y16 =>
                                if (y16 != (0 : Int)) then
                                  some (((1 : Int), ()), ())
                                else
                                  some (((0 : Int), ()), ())
                              else
                                some (((1 : Int), ()), ())
                            else
                              some (((1 : Int), ()), ())
                          else
                            some (((1 : Int), ()), ())
                        else
                          some (((1 : Int), ()), ())
                  else
                    some (((2 : Int), ()), ())
              else
                some (((3 : Int), ()), ())
            else
              some (((3 : Int), ()), ())
          else
            some (((3 : Int), ()), ())
        else
          some (((3 : Int), ()), ())
    else
      some (((1 : Int), ()), ())
  else
    some (((1 : Int), ()), ())
abbrev C_spec_l8Fault : Con := ⟨P_spec_l8Fault, R_spec_l8Fault, F_spec_l8Fault, false⟩
abbrev G_spec_l8Fault : Env := [(65, C_spec_l1In), (153, C_spec_l8All), (154, C_spec_l8Word)]
theorem g_spec_l8Fault : EnvOk Tryz.prog G_spec_l8Fault := (env_cons s_spec_l1In (env_cons s_spec_l8All (env_cons s_spec_l8Word env_nil)))
theorem r_spec_l8Fault (x) : runFn T G_spec_l8Fault [] Tryz.f102 P_spec_l8Fault R_spec_l8Fault x = F_spec_l8Fault x := by kernel_rfl
theorem s_spec_l8Fault : CallsOk Tryz.prog 102 C_spec_l8Fault :=
  fn_calls (L := []) hT g_spec_l8Fault Tryz.f102 (by kernel_rfl) (by kernel_rfl) (by kernel_rfl) (plain_ok (by kernel_rfl)) r_spec_l8Fault
/-! spec.PagesFault -/
abbrev P_spec_PagesFault : List PK := [.val Y25, .val YI]
abbrev R_spec_PagesFault : List VK := [.s (.dat YI)]
abbrev i_spec_PagesFault_6 : Shp := { slots := [(0, .s (.dat Y25)), (1, .s (.dat YI)), (5, .s (.dat YI))], boxes := [], rows := [] }
abbrev o_spec_PagesFault_6 : List (Ex × Shp) := [(.exit 0, { slots := [], boxes := [], rows := [] }), (.ret, { slots := [(4, .s (.dat YI))], boxes := [], rows := [] })]
def l_spec_PagesFault_6 (rec : i_spec_PagesFault_6.den → Option (denO o_spec_PagesFault_6)) (u6 : i_spec_PagesFault_6.den) : Option (denO o_spec_PagesFault_6) :=
  let v9 := ((u6.1.1.length : Nat) : Int)
  if (ltI u6.1.2.2.1 v9) then
    if 0 ≤ u6.1.2.2.1 then
      ((u6.1.1)[(u6.1.2.2.1).toNat]?).bind fun y10 =>
      let v11 := (IntKind.i64.wrap (u6.1.2.1 - (1 : Int)))
      (F_spec_l1In (y10.1, (-1 : Int), v11, ())).bind fun r12 =>
      if (!r12.1.1) = false then
        if 0 ≤ u6.1.2.2.1 then
          ((u6.1.1)[(u6.1.2.2.1).toNat]?).bind fun y13 =>
          (F_spec_l1In (y13.2.1, (0 : Int), (7 : Int), ())).bind fun r14 =>
          if (!r14.1.1) then
            some (.inr (.inl (((3 : Int), ()), ((), ()))))
          else
            if 0 ≤ u6.1.2.2.1 then
              ((u6.1.1)[(u6.1.2.2.1).toNat]?).bind fun y15 =>
              if (ltI y15.1 (0 : Int)) = true then
                if 0 ≤ u6.1.2.2.1 then
                  ((u6.1.1)[(u6.1.2.2.1).toNat]?).bind fun y16 =>
                  if (y16.2.1 != (0 : Int)) then
                    some (.inr (.inl (((1 : Int), ()), ((), ()))))
                  else
                    let v17 := (IntKind.i64.wrap (u6.1.2.2.1 + (1 : Int)))
                    rec ((u6.1.1, (u6.1.2.1, (v17, ()))), ((), ()))
                else none
              else
                let v18 := (IntKind.i64.wrap (u6.1.2.2.1 + (1 : Int)))
                rec ((u6.1.1, (u6.1.2.1, (v18, ()))), ((), ()))
            else none
        else none
      else
        some (.inr (.inl (((3 : Int), ()), ((), ()))))
    else none
  else
    some (.inl ((), ((), ())))
def L_spec_PagesFault_6 (x : i_spec_PagesFault_6.den) : Option (denO o_spec_PagesFault_6) := iterF l_spec_PagesFault_6 lots x
def F_spec_PagesFault (x : denP P_spec_PagesFault) : Option (denV R_spec_PagesFault × denQ P_spec_PagesFault) :=
  (F_spec_l1In (x.2.1, (1 : Int), (24 : Int), ())).bind fun r1 =>
  if (!r1.1.1) then
    some (((3 : Int), ()), ())
  else
    let v2 := ((x.1.length : Nat) : Int)
    if (v2 != (8 : Int)) then
      some (((1 : Int), ()), ())
    else
      (L_spec_PagesFault_6 ((x.1, (x.2.1, ((0 : Int), ()))), ((), ()))).bind fun z19 =>
      match z19 with
      | .inl x20 =>
        some (((0 : Int), ()), ())
      | .inr z19_ =>
        match z19_ with
        | .inl x21 =>
          some ((x21.1.1, ()), ())
        | .inr z19__ =>
          none
abbrev C_spec_PagesFault : Con := ⟨P_spec_PagesFault, R_spec_PagesFault, F_spec_PagesFault, false⟩
abbrev G_spec_PagesFault : Env := [(65, C_spec_l1In)]
theorem g_spec_PagesFault : EnvOk Tryz.prog G_spec_PagesFault := (env_cons s_spec_l1In env_nil)
abbrev c_spec_PagesFault_6 : Cut := ⟨i_spec_PagesFault_6, o_spec_PagesFault_6, fun x => iterF l_spec_PagesFault_6 lots x⟩
theorem t_spec_PagesFault_6 (rec x) : run T G_spec_PagesFault [] (nav Tryz.f103 [1, 1, 1, 0, 1, 0, 0]) (mk 50 i_spec_PagesFault_6 x) (loopK i_spec_PagesFault_6 o_spec_PagesFault_6 rec) = l_spec_PagesFault_6 rec x := by kernel_rfl
theorem k_spec_PagesFault_6 : CutOk Tryz.prog 50 (.loop (nav Tryz.f103 [1, 1, 1, 0, 1, 0, 0])) c_spec_PagesFault_6 :=
  loop_cut (L := []) hT g_spec_PagesFault t_spec_PagesFault_6 (plain_ok (by kernel_rfl)) _
theorem r_spec_PagesFault (x) : runFn T G_spec_PagesFault [(6, c_spec_PagesFault_6)] Tryz.f103 P_spec_PagesFault R_spec_PagesFault x = F_spec_PagesFault x := by kernel_rfl
theorem s_spec_PagesFault : CallsOk Tryz.prog 103 C_spec_PagesFault :=
  fn_calls (L := [(6, c_spec_PagesFault_6)]) hT g_spec_PagesFault Tryz.f103 (by kernel_rfl) (by kernel_rfl) (by kernel_rfl) (seq_ok (plain_ok (by kernel_rfl)) (seq_ok (plain_ok (by kernel_rfl)) (seq_ok (plain_ok (by kernel_rfl)) (seq_ok (seq_ok (plain_ok (by kernel_rfl)) (block_ok (by kernel_rfl) (loop_ok (by kernel_rfl) k_spec_PagesFault_6))) (plain_ok (by kernel_rfl)))))) r_spec_PagesFault
/-! spec.MemoryFault -/
abbrev P_spec_MemoryFault : List PK := [.val Y22]
abbrev R_spec_MemoryFault : List VK := [.s (.dat YI)]
abbrev i_spec_MemoryFault_4 : Shp := { slots := [(0, .s (.dat Y22)), (3, .s (.dat YI))], boxes := [], rows := [] }
abbrev o_spec_MemoryFault_4 : List (Ex × Shp) := [(.exit 0, { slots := [], boxes := [], rows := [] }), (.ret, { slots := [(2, .s (.dat YI))], boxes := [], rows := [] })]
def l_spec_MemoryFault_4 (rec : i_spec_MemoryFault_4.den → Option (denO o_spec_MemoryFault_4)) (u4 : i_spec_MemoryFault_4.den) : Option (denO o_spec_MemoryFault_4) :=
  let v7 := ((u4.1.1.length : Nat) : Int)
  if (ltI u4.1.2.1 v7) then
    if 0 ≤ u4.1.2.1 then
      ((u4.1.1)[(u4.1.2.1).toNat]?).bind fun y8 =>
      (F_spec_l1In (y8, (0 : Int), (4294967295 : Int), ())).bind fun r9 =>
      if (!r9.1.1) then
        some (.inr (.inl (((3 : Int), ()), ((), ()))))
      else
        let v10 := (IntKind.i64.wrap (u4.1.2.1 + (1 : Int)))
        rec ((u4.1.1, (v10, ())), ((), ()))
    else none
  else
    some (.inl ((), ((), ())))
def L_spec_MemoryFault_4 (x : i_spec_MemoryFault_4.den) : Option (denO o_spec_MemoryFault_4) := iterF l_spec_MemoryFault_4 lots x
def F_spec_MemoryFault (x : denP P_spec_MemoryFault) : Option (denV R_spec_MemoryFault × denQ P_spec_MemoryFault) :=
  let v1 := ((x.1.length : Nat) : Int)
  let v2 := ((v1).tmod (8 : Int))
  if (v2 != (0 : Int)) = false then
    let v3 := ((x.1.length : Nat) : Int)
    if (ltI v3 (8 : Int)) = false then
      let v4 := ((x.1.length : Nat) : Int)
      if (ltI (192 : Int) v4) then
        some (((1 : Int), ()), ())
      else
        (L_spec_MemoryFault_4 ((x.1, ((0 : Int), ())), ((), ()))).bind fun z11 =>
        match z11 with
        | .inl x12 =>
          some (((0 : Int), ()), ())
        | .inr z11_ =>
          match z11_ with
          | .inl x13 =>
            some ((x13.1.1, ()), ())
          | .inr z11__ =>
            none
    else
      some (((1 : Int), ()), ())
  else
    some (((1 : Int), ()), ())
abbrev C_spec_MemoryFault : Con := ⟨P_spec_MemoryFault, R_spec_MemoryFault, F_spec_MemoryFault, false⟩
abbrev G_spec_MemoryFault : Env := [(65, C_spec_l1In)]
theorem g_spec_MemoryFault : EnvOk Tryz.prog G_spec_MemoryFault := (env_cons s_spec_l1In env_nil)
abbrev c_spec_MemoryFault_4 : Cut := ⟨i_spec_MemoryFault_4, o_spec_MemoryFault_4, fun x => iterF l_spec_MemoryFault_4 lots x⟩
theorem t_spec_MemoryFault_4 (rec x) : run T G_spec_MemoryFault [] (nav Tryz.f104 [1, 1, 0, 1, 0, 0]) (mk 30 i_spec_MemoryFault_4 x) (loopK i_spec_MemoryFault_4 o_spec_MemoryFault_4 rec) = l_spec_MemoryFault_4 rec x := by kernel_rfl
theorem k_spec_MemoryFault_4 : CutOk Tryz.prog 30 (.loop (nav Tryz.f104 [1, 1, 0, 1, 0, 0])) c_spec_MemoryFault_4 :=
  loop_cut (L := []) hT g_spec_MemoryFault t_spec_MemoryFault_4 (plain_ok (by kernel_rfl)) _
theorem r_spec_MemoryFault (x) : runFn T G_spec_MemoryFault [(4, c_spec_MemoryFault_4)] Tryz.f104 P_spec_MemoryFault R_spec_MemoryFault x = F_spec_MemoryFault x := by kernel_rfl
theorem s_spec_MemoryFault : CallsOk Tryz.prog 104 C_spec_MemoryFault :=
  fn_calls (L := [(4, c_spec_MemoryFault_4)]) hT g_spec_MemoryFault Tryz.f104 (by kernel_rfl) (by kernel_rfl) (by kernel_rfl) (seq_ok (plain_ok (by kernel_rfl)) (seq_ok (plain_ok (by kernel_rfl)) (seq_ok (seq_ok (plain_ok (by kernel_rfl)) (block_ok (by kernel_rfl) (loop_ok (by kernel_rfl) k_spec_MemoryFault_4))) (plain_ok (by kernel_rfl))))) r_spec_MemoryFault
/-! spec.l10Asked -/
abbrev P_spec_l10Asked : List PK := [.ptr Y23, .val Y25, .val Y22]
abbrev R_spec_l10Asked : List VK := [.s (.dat YI)]
abbrev i_spec_l10Asked_10 : Shp := { slots := [(1, .s (.dat Y25)), (2, .s (.dat Y22)), (9, .s (.dat YI))], boxes := [], rows := [] }
abbrev o_spec_l10Asked_10 : List (Ex × Shp) := [(.exit 0, { slots := [], boxes := [], rows := [] }), (.ret, { slots := [(6, .s (.dat YI))], boxes := [], rows := [] })]
def l_spec_l10Asked_10 (rec : i_spec_l10Asked_10.den → Option (denO o_spec_l10Asked_10)) (u10 : i_spec_l10Asked_10.den) : Option (denO o_spec_l10Asked_10) :=
  let v5 := ((u10.1.1.length : Nat) : Int)
  if (ltI u10.1.2.2.1 v5) then
    if 0 ≤ u10.1.2.2.1 then
      ((u10.1.1)[(u10.1.2.2.1).toNat]?).bind fun y6 =>
      let v7 := (IntKind.i64.wrap (y6.1 + (1 : Int)))
      let v8 := (IntKind.i64.wrap (v7 * (8 : Int)))
      let v9 := ((u10.1.2.1.length : Nat) : Int)
      if (ltI v9 v8) then
        some (.inr (.inl (((1 : Int), ()), ((), ()))))
      else
        let v10 := (IntKind.i64.wrap (u10.1.2.2.1 + (1 : Int)))
        rec ((u10.1.1, (u10.1.2.1, (v10, ()))), ((), ()))
    else none
  else
    some (.inl ((), ((), ())))
def L_spec_l10Asked_10 (x : i_spec_l10Asked_10.den) : Option (denO o_spec_l10Asked_10) := iterF l_spec_l10Asked_10 lots x
def F_spec_l10Asked (x : denP P_spec_l10Asked) : Option (denV R_spec_l10Asked × denQ P_spec_l10Asked) :=
  (F_spec_l8Fault (x.1, ())).bind fun r1 =>
  if (r1.1.1 != (0 : Int)) then
    some ((r1.1.1, ()), ())
  else
    (F_spec_PagesFault (x.2.1, (24 : Int), ())).bind fun r2 =>
    if (r2.1.1 != (0 : Int)) then
      some ((r2.1.1, ()), ())
    else
      (F_spec_MemoryFault (x.2.2.1, ())).bind fun r3 =>
      if (r3.1.1 != (0 : Int)) then
        some (((1 : Int), ()), ())
      else
        (L_spec_l10Asked_10 ((x.2.1, (x.2.2.1, ((0 : Int), ()))), ((), ()))).bind fun z11 =>
        match z11 with
        | .inl x12 =>
          some (((0 : Int), ()), ())
        | .inr z11_ =>
          match z11_ with
          | .inl x13 =>
            some ((x13.1.1, ()), ())
          | .inr z11__ =>
            none
abbrev C_spec_l10Asked : Con := ⟨P_spec_l10Asked, R_spec_l10Asked, F_spec_l10Asked, false⟩
abbrev G_spec_l10Asked : Env := [(102, C_spec_l8Fault), (103, C_spec_PagesFault), (104, C_spec_MemoryFault)]
theorem g_spec_l10Asked : EnvOk Tryz.prog G_spec_l10Asked := (env_cons s_spec_l8Fault (env_cons s_spec_PagesFault (env_cons s_spec_MemoryFault env_nil)))
abbrev c_spec_l10Asked_10 : Cut := ⟨i_spec_l10Asked_10, o_spec_l10Asked_10, fun x => iterF l_spec_l10Asked_10 lots x⟩
theorem t_spec_l10Asked_10 (rec x) : run T G_spec_l10Asked [] (nav Tryz.f58 [1, 1, 1, 1, 0, 1, 0, 0]) (mk 39 i_spec_l10Asked_10 x) (loopK i_spec_l10Asked_10 o_spec_l10Asked_10 rec) = l_spec_l10Asked_10 rec x := by kernel_rfl
theorem k_spec_l10Asked_10 : CutOk Tryz.prog 39 (.loop (nav Tryz.f58 [1, 1, 1, 1, 0, 1, 0, 0])) c_spec_l10Asked_10 :=
  loop_cut (L := []) hT g_spec_l10Asked t_spec_l10Asked_10 (plain_ok (by kernel_rfl)) _
theorem r_spec_l10Asked (x) : runFn T G_spec_l10Asked [(10, c_spec_l10Asked_10)] Tryz.f58 P_spec_l10Asked R_spec_l10Asked x = F_spec_l10Asked x := by kernel_rfl
theorem s_spec_l10Asked : CallsOk Tryz.prog 58 C_spec_l10Asked :=
  fn_calls (L := [(10, c_spec_l10Asked_10)]) hT g_spec_l10Asked Tryz.f58 (by kernel_rfl) (by kernel_rfl) (by kernel_rfl) (seq_ok (plain_ok (by kernel_rfl)) (seq_ok (plain_ok (by kernel_rfl)) (seq_ok (plain_ok (by kernel_rfl)) (seq_ok (plain_ok (by kernel_rfl)) (seq_ok (seq_ok (plain_ok (by kernel_rfl)) (block_ok (by kernel_rfl) (loop_ok (by kernel_rfl) k_spec_l10Asked_10))) (plain_ok (by kernel_rfl))))))) r_spec_l10Asked
/-! spec.l3Copy -/
abbrev P_spec_l3Copy : List PK := [.val Y22]
abbrev R_spec_l3Copy : List VK := [.s (.own 2 YI)]
def F_spec_l3Copy (x : denP P_spec_l3Copy) : Option (denV R_spec_l3Copy × denQ P_spec_l3Copy) :=
  if (([] : List (den YI)).length + x.1.length) * 8 ≤ 140737488355328 then
    let v1 := (([] : List (den YI)) ++ x.1)
    some ((v1, ()), ())
  else none
abbrev C_spec_l3Copy : Con := ⟨P_spec_l3Copy, R_spec_l3Copy, F_spec_l3Copy, false⟩
abbrev G_spec_l3Copy : Env := []
theorem g_spec_l3Copy : EnvOk Tryz.prog G_spec_l3Copy := env_nil
theorem r_spec_l3Copy (x) : runFn T G_spec_l3Copy [] Tryz.f105 P_spec_l3Copy R_spec_l3Copy x = F_spec_l3Copy x := by kernel_rfl
theorem s_spec_l3Copy : CallsOk Tryz.prog 105 C_spec_l3Copy :=
  fn_calls (L := []) hT g_spec_l3Copy Tryz.f105 (by kernel_rfl) (by kernel_rfl) (by kernel_rfl) (plain_ok (by kernel_rfl)) r_spec_l3Copy
/-! spec.l8Copy -/
abbrev P_spec_l8Copy : List PK := [.val Y23]
abbrev R_spec_l8Copy : List VK := [.g [.own 2 YI, .dat YI, .own 2 YI, .dat .bool, .dat .bool, .dat .bool, .dat YI, .own 2 YI, .own 2 YI]]
def F_spec_l8Copy (x : denP P_spec_l8Copy) : Option (denV R_spec_l8Copy × denQ P_spec_l8Copy) :=
  if (([] : List (den YI)).length + x.1.1.length) * 8 ≤ 140737488355328 then
    let v1 := (([] : List (den YI)) ++ x.1.1)
    if (([] : List (den YI)).length + x.1.2.2.1.length) * 8 ≤ 140737488355328 then
      let v2 := (([] : List (den YI)) ++ x.1.2.2.1)
      if (([] : List (den YI)).length + x.1.2.2.2.2.2.2.2.1.length) * 8 ≤ 140737488355328 then
        let v3 := (([] : List (den YI)) ++ x.1.2.2.2.2.2.2.2.1)
        if (([] : List (den YI)).length + x.1.2.2.2.2.2.2.2.2.1.length) * 8 ≤ 140737488355328 then
          let v4 := (([] : List (den YI)) ++ x.1.2.2.2.2.2.2.2.2.1)
          some (((v1, (x.1.2.1, (v2, (x.1.2.2.2.1, (x.1.2.2.2.2.1, (x.1.2.2.2.2.2.1, (x.1.2.2.2.2.2.2.1, (v3, (v4, ()))))))))), ()), ())
        else none
      else none
    else none
  else none
abbrev C_spec_l8Copy : Con := ⟨P_spec_l8Copy, R_spec_l8Copy, F_spec_l8Copy, false⟩
abbrev G_spec_l8Copy : Env := []
theorem g_spec_l8Copy : EnvOk Tryz.prog G_spec_l8Copy := env_nil
theorem r_spec_l8Copy (x) : runFn T G_spec_l8Copy [] Tryz.f106 P_spec_l8Copy R_spec_l8Copy x = F_spec_l8Copy x := by kernel_rfl
theorem s_spec_l8Copy : CallsOk Tryz.prog 106 C_spec_l8Copy :=
  fn_calls (L := []) hT g_spec_l8Copy Tryz.f106 (by kernel_rfl) (by kernel_rfl) (by kernel_rfl) (plain_ok (by kernel_rfl)) r_spec_l8Copy
/-! spec.l10New -/
abbrev P_spec_l10New : List PK := [.val Y23, .val Y25, .val Y22]
abbrev R_spec_l10New : List VK := [.b [.dat Y25, .own 2 YI, .dat YI, .own 2 YI, .dat YI, .own 2 YI, .dat .bool, .dat .bool, .dat .bool, .dat YI, .dat Y22, .own 2 YI, .dat YI]]
def F_spec_l10New (x : denP P_spec_l10New) : Option (denV R_spec_l10New × denQ P_spec_l10New) :=
  (F_spec_l3Copy (x.2.2.1, ())).bind fun r1 =>
  (F_spec_l8Copy (x.1, ())).bind fun r2 =>
  some (((x.2.1, (r1.1.1, ((-1 : Int), (r2.1.1.1, (r2.1.1.2.1, (r2.1.1.2.2.1, (r2.1.1.2.2.2.1, (r2.1.1.2.2.2.2.1, (r2.1.1.2.2.2.2.2.1, (r2.1.1.2.2.2.2.2.2.1, (r2.1.1.2.2.2.2.2.2.2.1, (r2.1.1.2.2.2.2.2.2.2.2.1, ((-1 : Int), ()))))))))))))), ()), ())
abbrev C_spec_l10New : Con := ⟨P_spec_l10New, R_spec_l10New, F_spec_l10New, false⟩
abbrev G_spec_l10New : Env := [(105, C_spec_l3Copy), (106, C_spec_l8Copy)]
theorem g_spec_l10New : EnvOk Tryz.prog G_spec_l10New := (env_cons s_spec_l3Copy (env_cons s_spec_l8Copy env_nil))
theorem r_spec_l10New (x) : runFnb T G_spec_l10New [] Tryz.f59 P_spec_l10New [.dat Y25, .own 2 YI, .dat YI, .own 2 YI, .dat YI, .own 2 YI, .dat .bool, .dat .bool, .dat .bool, .dat YI, .dat Y22, .own 2 YI, .dat YI] x = F_spec_l10New x := by kernel_rfl
theorem s_spec_l10New : CallsOk Tryz.prog 59 C_spec_l10New :=
  fnb_calls (L := []) hT g_spec_l10New Tryz.f59 (by kernel_rfl) (by kernel_rfl) (by kernel_rfl) (plain_ok (by kernel_rfl)) r_spec_l10New
/-! spec.l8Pending -/
abbrev P_spec_l8Pending : List PK := [.ptr Y23]
abbrev R_spec_l8Pending : List VK := [.s (.dat YI)]
def F_spec_l8Pending (x : denP P_spec_l8Pending) : Option (denV R_spec_l8Pending × denQ P_spec_l8Pending) :=
  ((x.1.2.2.1)[((9 : Int)).toNat]?).bind fun y1 =>
  if (y1 != (0 : Int)) = true then
    ((x.1.2.2.1)[((9 : Int)).toNat]?).bind fun y2 =>
    if (leI y2 x.1.2.2.2.2.2.2.1) then
      if x.1.2.2.2.2.2.1 then
        let v3 := ((x.1.2.2.2.2.2.2.2.1.length : Nat) : Int)
        if (ltI (0 : Int) v3) then
          some (((7 : Int), ()), ())
        else
          some (((3 : Int), ()), ())
      else
        let v4 := ((x.1.2.2.2.2.2.2.2.1.length : Nat) : Int)
        if (ltI (0 : Int) v4) then
          some (((5 : Int), ()), ())
        else
          some (((1 : Int), ()), ())
    else
      if x.1.2.2.2.2.2.1 then
        let v5 := ((x.1.2.2.2.2.2.2.2.1.length : Nat) : Int)
        if (ltI (0 : Int) v5) then
          some (((6 : Int), ()), ())
        else
          some (((2 : Int), ()), ())
      else
        let v6 := ((x.1.2.2.2.2.2.2.2.1.length : Nat) : Int)
        if (ltI (0 : Int) v6) then
          some (((4 : Int), ()), ())
        else
          some (((0 : Int), ()), ())
  else
    if x.1.2.2.2.2.2.1 then
      let v7 := ((x.1.2.2.2.2.2.2.2.1.length : Nat) : Int)
      if (ltI (0 : Int) v7) then
        some (((6 : Int), ()), ())
      else
        some (((2 : Int), ()), ())
    else
      let v8 := ((x.1.2.2.2.2.2.2.2.1.length : Nat) : Int)
      if (ltI (0 : Int) v8) then
        some (((4 : Int), ()), ())
      else
        some (((0 : Int), ()), ())
abbrev C_spec_l8Pending : Con := ⟨P_spec_l8Pending, R_spec_l8Pending, F_spec_l8Pending, false⟩
abbrev G_spec_l8Pending : Env := []
theorem g_spec_l8Pending : EnvOk Tryz.prog G_spec_l8Pending := env_nil
theorem r_spec_l8Pending (x) : runFn T G_spec_l8Pending [] Tryz.f109 P_spec_l8Pending R_spec_l8Pending x = F_spec_l8Pending x := by kernel_rfl
theorem s_spec_l8Pending : CallsOk Tryz.prog 109 C_spec_l8Pending :=
  fn_calls (L := []) hT g_spec_l8Pending Tryz.f109 (by kernel_rfl) (by kernel_rfl) (by kernel_rfl) (plain_ok (by kernel_rfl)) r_spec_l8Pending
/-! spec.l8Due -/
abbrev P_spec_l8Due : List PK := [.ptr Y23]
abbrev R_spec_l8Due : List VK := [.s (.dat YI)]
abbrev i_spec_l8Due_5 : Shp := { slots := [(3, .s (.dat YI)), (4, .s (.dat YI))], boxes := [], rows := [] }
abbrev o_spec_l8Due_5 : List (Ex × Shp) := [(.exit 0, { slots := [], boxes := [], rows := [] }), (.ret, { slots := [(2, .s (.dat YI))], boxes := [], rows := [] })]
def l_spec_l8Due_5 (rec : i_spec_l8Due_5.den → Option (denO o_spec_l8Due_5)) (u5 : i_spec_l8Due_5.den) : Option (denO o_spec_l8Due_5) :=
  if (ltI u5.1.2.1 (3 : Int)) then
    let v6 := (IntKind.u64.wrap u5.1.2.1)
    if v6 < 0 then none else
    let v7 := ((u5.1.1).fdiv (2 ^ (min (v6).toNat 64)))
    let v8 := (iand .i64 v7 (1 : Int))
    if (v8 == (1 : Int)) then
      some (.inr (.inl ((u5.1.2.1, ()), ((), ()))))
    else
      let v9 := (IntKind.i64.wrap (u5.1.2.1 + (1 : Int)))
      rec ((u5.1.1, (v9, ())), ((), ()))
  else
    some (.inl ((), ((), ())))
def L_spec_l8Due_5 (x : i_spec_l8Due_5.den) : Option (denO o_spec_l8Due_5) := iterF l_spec_l8Due_5 lots x
def F_spec_l8Due (x : denP P_spec_l8Due) : Option (denV R_spec_l8Due × denQ P_spec_l8Due) :=
  (F_spec_l8Pending (x.1, ())).bind fun r1 =>
  ((x.1.2.2.1)[((7 : Int)).toNat]?).bind fun y2 =>
  let v3 := (iand .i64 r1.1.1 y2)
  ((x.1.2.2.1)[((0 : Int)).toNat]?).bind fun y4 =>
  let v5 := ((y4).tmod (2 : Int))
  if (v5 == (0 : Int)) then
    some (((-1 : Int), ()), ())
  else
    (L_spec_l8Due_5 ((v3, ((0 : Int), ())), ((), ()))).bind fun z10 =>
    match z10 with
    | .inl x11 =>
      some (((-1 : Int), ()), ())
    | .inr z10_ =>
      match z10_ with
      | .inl x12 =>
        some ((x12.1.1, ()), ())
      | .inr z10__ =>
        none
abbrev C_spec_l8Due : Con := ⟨P_spec_l8Due, R_spec_l8Due, F_spec_l8Due, false⟩
abbrev G_spec_l8Due : Env := [(109, C_spec_l8Pending)]
theorem g_spec_l8Due : EnvOk Tryz.prog G_spec_l8Due := (env_cons s_spec_l8Pending env_nil)
abbrev c_spec_l8Due_5 : Cut := ⟨i_spec_l8Due_5, o_spec_l8Due_5, fun x => iterF l_spec_l8Due_5 lots x⟩
theorem t_spec_l8Due_5 (rec x) : run T G_spec_l8Due [] (nav Tryz.f107 [1, 1, 1, 0, 1, 0, 0]) (mk 33 i_spec_l8Due_5 x) (loopK i_spec_l8Due_5 o_spec_l8Due_5 rec) = l_spec_l8Due_5 rec x := by kernel_rfl
theorem k_spec_l8Due_5 : CutOk Tryz.prog 33 (.loop (nav Tryz.f107 [1, 1, 1, 0, 1, 0, 0])) c_spec_l8Due_5 :=
  loop_cut (L := []) hT g_spec_l8Due t_spec_l8Due_5 (plain_ok (by kernel_rfl)) _
theorem r_spec_l8Due (x) : runFn T G_spec_l8Due [(5, c_spec_l8Due_5)] Tryz.f107 P_spec_l8Due R_spec_l8Due x = F_spec_l8Due x := by kernel_rfl
theorem s_spec_l8Due : CallsOk Tryz.prog 107 C_spec_l8Due :=
  fn_calls (L := [(5, c_spec_l8Due_5)]) hT g_spec_l8Due Tryz.f107 (by kernel_rfl) (by kernel_rfl) (by kernel_rfl) (seq_ok (plain_ok (by kernel_rfl)) (seq_ok (plain_ok (by kernel_rfl)) (seq_ok (plain_ok (by kernel_rfl)) (seq_ok (seq_ok (plain_ok (by kernel_rfl)) (block_ok (by kernel_rfl) (loop_ok (by kernel_rfl) k_spec_l8Due_5))) (plain_ok (by kernel_rfl)))))) r_spec_l8Due
/-! spec.l8Trap -/
abbrev P_spec_l8Trap : List PK := [.box [.own 2 YI, .dat YI, .own 2 YI, .dat .bool, .dat .bool, .dat .bool, .dat YI, .dat Y22, .own 2 YI] [.own 2 YI, .dat YI, .own 2 YI, .dat .bool, .dat .bool, .dat .bool, .dat YI, .dat Y22, .own 2 YI], .val YI, .val YI]
abbrev R_spec_l8Trap : List VK := []
def F_spec_l8Trap (x : denP P_spec_l8Trap) : Option (denV R_spec_l8Trap × denQ P_spec_l8Trap) :=
  if 0 ≤ (2 : Int) ∧ (2 : Int) < ((x.1.2.2.1.length : Nat) : Int) then
    ((x.1.2.2.1)[((2 : Int)).toNat]?).bind fun y1 =>
    let v2 := (x.1.2.2.1.set ((2 : Int)).toNat x.1.2.1)
    if 0 ≤ (3 : Int) ∧ (3 : Int) < ((v2.length : Nat) : Int) then
      ((v2)[((3 : Int)).toNat]?).bind fun y3 =>
      let v4 := (v2.set ((3 : Int)).toNat x.2.1)
      if 0 ≤ (4 : Int) ∧ (4 : Int) < ((v4.length : Nat) : Int) then
        ((v4)[((4 : Int)).toNat]?).bind fun y5 =>
        let v6 := (v4.set ((4 : Int)).toNat x.2.2.1)
        if 0 ≤ (0 : Int) ∧ (0 : Int) < ((v6.length : Nat) : Int) then
          ((v6)[((0 : Int)).toNat]?).bind fun y7 =>
          let v8 := ((y7).tmod (2 : Int))
          let v9 := (IntKind.i64.wrap (v8 * (2 : Int)))
          if 0 ≤ (0 : Int) ∧ (0 : Int) < ((v6.length : Nat) : Int) then
            ((v6)[((0 : Int)).toNat]?).bind fun y10 =>
            let v11 := (v6.set ((0 : Int)).toNat v9)
            if 0 ≤ (1 : Int) ∧ (1 : Int) < ((v11.length : Nat) : Int) then
              ((v11)[((1 : Int)).toNat]?).bind fun y12 =>
              some ((), ((x.1.1, (y12, (v11, (x.1.2.2.2.1, (false, (x.1.2.2.2.2.2.1, (x.1.2.2.2.2.2.2.1, (x.1.2.2.2.2.2.2.2.1, (x.1.2.2.2.2.2.2.2.2.1, ()))))))))), ()))
            else none
          else none
        else none
      else none
    else none
  else none
abbrev C_spec_l8Trap : Con := ⟨P_spec_l8Trap, R_spec_l8Trap, F_spec_l8Trap, false⟩
abbrev G_spec_l8Trap : Env := []
theorem g_spec_l8Trap : EnvOk Tryz.prog G_spec_l8Trap := env_nil
theorem r_spec_l8Trap (x) : runFn T G_spec_l8Trap [] Tryz.f155 P_spec_l8Trap R_spec_l8Trap x = F_spec_l8Trap x := by kernel_rfl
theorem s_spec_l8Trap : CallsOk Tryz.prog 155 C_spec_l8Trap :=
  fn_calls (L := []) hT g_spec_l8Trap Tryz.f155 (by kernel_rfl) (by kernel_rfl) (by kernel_rfl) (plain_ok (by kernel_rfl)) r_spec_l8Trap
/-! spec.l10Fall -/
abbrev P_spec_l10Fall : List PK := [.box [.dat Y25, .own 2 YI, .dat YI, .own 2 YI, .dat YI, .own 2 YI, .dat .bool, .dat .bool, .dat .bool, .dat YI, .dat Y22, .own 2 YI, .dat YI] [.dat Y25, .own 2 YI, .dat YI, .own 2 YI, .dat YI, .own 2 YI, .dat .bool, .dat .bool, .dat .bool, .dat YI, .dat Y22, .own 2 YI, .dat YI], .val YI, .val YI]
abbrev R_spec_l10Fall : List VK := []
def F_spec_l10Fall (x : denP P_spec_l10Fall) : Option (denV R_spec_l10Fall × denQ P_spec_l10Fall) :=
  (F_spec_l8Trap ((x.1.2.2.2.1, (x.1.2.2.2.2.1, (x.1.2.2.2.2.2.1, (x.1.2.2.2.2.2.2.1, (x.1.2.2.2.2.2.2.2.1, (x.1.2.2.2.2.2.2.2.2.1, (x.1.2.2.2.2.2.2.2.2.2.1, (x.1.2.2.2.2.2.2.2.2.2.2.1, (x.1.2.2.2.2.2.2.2.2.2.2.2.1, ()))))))))), x.2.1, x.2.2.1, ())).bind fun r1 =>
  some ((), ((x.1.1, (x.1.2.1, (x.1.2.2.1, (r1.2.1.1, (r1.2.1.2.1, (r1.2.1.2.2.1, (r1.2.1.2.2.2.1, (r1.2.1.2.2.2.2.1, (r1.2.1.2.2.2.2.2.1, (r1.2.1.2.2.2.2.2.2.1, (r1.2.1.2.2.2.2.2.2.2.1, (r1.2.1.2.2.2.2.2.2.2.2.1, (x.2.1, ()))))))))))))), ()))
abbrev C_spec_l10Fall : Con := ⟨P_spec_l10Fall, R_spec_l10Fall, F_spec_l10Fall, false⟩
abbrev G_spec_l10Fall : Env := [(155, C_spec_l8Trap)]
theorem g_spec_l10Fall : EnvOk Tryz.prog G_spec_l10Fall := (env_cons s_spec_l8Trap env_nil)
theorem r_spec_l10Fall (x) : runFn T G_spec_l10Fall [] Tryz.f108 P_spec_l10Fall R_spec_l10Fall x = F_spec_l10Fall x := by kernel_rfl
theorem s_spec_l10Fall : CallsOk Tryz.prog 108 C_spec_l10Fall :=
  fn_calls (L := []) hT g_spec_l10Fall Tryz.f108 (by kernel_rfl) (by kernel_rfl) (by kernel_rfl) (plain_ok (by kernel_rfl)) r_spec_l10Fall
/-! spec.l4Walk -/
abbrev P_spec_l4Walk : List PK := [.val Y25, .val YI, .val YI]
abbrev R_spec_l4Walk : List VK := [.s (.dat YI)]
def F_spec_l4Walk (x : denP P_spec_l4Walk) : Option (denV R_spec_l4Walk × denQ P_spec_l4Walk) :=
  (F_spec_l1In (x.2.1, (0 : Int), (63 : Int), ())).bind fun r1 =>
  if (!r1.1.1) then
    some (((-1 : Int), ()), ())
  else
    let v2 := (IntKind.i64.wrap ((x.2.1).tdiv (8 : Int)))
    if 0 ≤ v2 then
      ((x.1)[(v2).toNat]?).bind fun y3 =>
      if (ltI y3.1 (0 : Int)) = false then
        let v4 := (iand .i64 y3.2.1 x.2.2.1)
        if (v4 == (0 : Int)) then
          some (((-1 : Int), ()), ())
        else
          let v5 := (IntKind.i64.wrap (y3.1 * (8 : Int)))
          let v6 := ((x.2.1).tmod (8 : Int))
          let v7 := (IntKind.i64.wrap (v5 + v6))
          some ((v7, ()), ())
      else
        some (((-1 : Int), ()), ())
    else none
abbrev C_spec_l4Walk : Con := ⟨P_spec_l4Walk, R_spec_l4Walk, F_spec_l4Walk, false⟩
abbrev G_spec_l4Walk : Env := [(65, C_spec_l1In)]
theorem g_spec_l4Walk : EnvOk Tryz.prog G_spec_l4Walk := (env_cons s_spec_l1In env_nil)
theorem r_spec_l4Walk (x) : runFn T G_spec_l4Walk [] Tryz.f131 P_spec_l4Walk R_spec_l4Walk x = F_spec_l4Walk x := by kernel_rfl
theorem s_spec_l4Walk : CallsOk Tryz.prog 131 C_spec_l4Walk :=
  fn_calls (L := []) hT g_spec_l4Walk Tryz.f131 (by kernel_rfl) (by kernel_rfl) (by kernel_rfl) (plain_ok (by kernel_rfl)) r_spec_l4Walk
/-! spec.l4None -/
abbrev P_spec_l4None : List PK := []
abbrev R_spec_l4None : List VK := [.s (.dat Y67)]
def F_spec_l4None (x : denP P_spec_l4None) : Option (denV R_spec_l4None × denQ P_spec_l4None) :=
  some ((((-1 : Int), ((0 : Int), ())), ()), ())
abbrev C_spec_l4None : Con := ⟨P_spec_l4None, R_spec_l4None, F_spec_l4None, false⟩
abbrev G_spec_l4None : Env := []
theorem g_spec_l4None : EnvOk Tryz.prog G_spec_l4None := env_nil
theorem r_spec_l4None (x) : runFn T G_spec_l4None [] Tryz.f209 P_spec_l4None R_spec_l4None x = F_spec_l4None x := by kernel_rfl
theorem s_spec_l4None : CallsOk Tryz.prog 209 C_spec_l4None :=
  fn_calls (L := []) hT g_spec_l4None Tryz.f209 (by kernel_rfl) (by kernel_rfl) (by kernel_rfl) (plain_ok (by kernel_rfl)) r_spec_l4None
/-! spec.l4Entry -/
abbrev P_spec_l4Entry : List PK := [.val YI]
abbrev R_spec_l4Entry : List VK := [.s (.dat Y67)]
def F_spec_l4Entry (x : denP P_spec_l4Entry) : Option (denV R_spec_l4Entry × denQ P_spec_l4Entry) :=
  let v1 := (IntKind.i64.wrap ((x.1).tdiv (8 : Int)))
  let v2 := ((x.1).tmod (8 : Int))
  if (v2 == (0 : Int)) = false then
    if (leI (8 : Int) v1) then
      (F_spec_l4None ()).bind fun r3 =>
      some ((r3.1.1, ()), ())
    else
      some (((v1, (v2, ())), ()), ())
  else
    (F_spec_l4None ()).bind fun r4 =>
    some ((r4.1.1, ()), ())
abbrev C_spec_l4Entry : Con := ⟨P_spec_l4Entry, R_spec_l4Entry, F_spec_l4Entry, false⟩
abbrev G_spec_l4Entry : Env := [(209, C_spec_l4None)]
theorem g_spec_l4Entry : EnvOk Tryz.prog G_spec_l4Entry := (env_cons s_spec_l4None env_nil)
theorem r_spec_l4Entry (x) : runFn T G_spec_l4Entry [] Tryz.f211 P_spec_l4Entry R_spec_l4Entry x = F_spec_l4Entry x := by kernel_rfl
theorem s_spec_l4Entry : CallsOk Tryz.prog 211 C_spec_l4Entry :=
  fn_calls (L := []) hT g_spec_l4Entry Tryz.f211 (by kernel_rfl) (by kernel_rfl) (by kernel_rfl) (plain_ok (by kernel_rfl)) r_spec_l4Entry
/-! spec.PagesFrom -/
abbrev P_spec_PagesFrom : List PK := [.val Y22]
abbrev R_spec_PagesFrom : List VK := [.g [.dat YI, .own 68 Y67]]
abbrev i_spec_PagesFrom_5 : Shp := { slots := [(0, .s (.dat Y22)), (2, .s (.ptr 2 0)), (3, .s (.ptr 3 0)), (4, .s (.dat YI))], boxes := [(2, [.dat YI, .own 68 Y67]), (3, [.dat YI, .own 68 Y67])], rows := [] }
abbrev o_spec_PagesFrom_5 : List (Ex × Shp) := [(.exit 0, { slots := [(2, .s (.ptr 2 0)), (3, .s (.ptr 3 0))], boxes := [(2, [.dat YI, .own 68 Y67]), (3, [.dat YI, .own 68 Y67])], rows := [] }), (.ret, { slots := [(2, .s (.ptr 2 0))], boxes := [(2, [.dat YI, .own 68 Y67])], rows := [] })]
def l_spec_PagesFrom_5 (rec : i_spec_PagesFrom_5.den → Option (denO o_spec_PagesFrom_5)) (u5 : i_spec_PagesFrom_5.den) : Option (denO o_spec_PagesFrom_5) :=
  let v6 := ((u5.1.1.length : Nat) : Int)
  if (ltI u5.1.2.2.2.1 v6) then
    if 0 ≤ u5.1.2.2.2.1 then
      ((u5.1.1)[(u5.1.2.2.2.1).toNat]?).bind fun y7 =>
      (F_spec_l1In (y7, (0 : Int), (4294967295 : Int), ())).bind fun r8 =>
      if (!r8.1.1) then
        some (.inr (.inl (((), ()), ((((3 : Int), (([] : List (den Y67)), ())), ()), ()))))
      else
        if 0 ≤ u5.1.2.2.2.1 then
          ((u5.1.1)[(u5.1.2.2.2.1).toNat]?).bind fun y9 =>
          (F_spec_l4Entry (y9, ())).bind fun r10 =>
          if (u5.2.1.2.1.2.1.length + [r10.1.1].length) * 16 ≤ 140737488355328 then
            let v11 := (u5.2.1.2.1.2.1 ++ [r10.1.1])
            let v12 := (IntKind.i64.wrap (u5.1.2.2.2.1 + (1 : Int)))
            rec ((u5.1.1, ((), ((), (v12, ())))), ((u5.2.1.1, ((u5.2.1.2.1.1, (v11, ())), ())), ()))
          else none
        else none
    else none
  else
    some (.inl (((), ((), ())), ((u5.2.1.1, (u5.2.1.2.1, ())), ())))
def L_spec_PagesFrom_5 (x : i_spec_PagesFrom_5.den) : Option (denO o_spec_PagesFrom_5) := iterF l_spec_PagesFrom_5 lots x
def F_spec_PagesFrom (x : denP P_spec_PagesFrom) : Option (denV R_spec_PagesFrom × denQ P_spec_PagesFrom) :=
  let v1 := ((x.1.length : Nat) : Int)
  if (v1 != (8 : Int)) then
    some ((((1 : Int), (([] : List (den Y67)), ())), ()), ())
  else
    (L_spec_PagesFrom_5 ((x.1, ((), ((), ((0 : Int), ())))), ((((0 : Int), (([] : List (den Y67)), ())), (((0 : Int), (([] : List (den Y67)), ())), ())), ()))).bind fun z13 =>
    match z13 with
    | .inl x14 =>
      some ((x14.2.1.2.1, ()), ())
    | .inr z13_ =>
      match z13_ with
      | .inl x15 =>
        some ((x15.2.1.1, ()), ())
      | .inr z13__ =>
        none
abbrev C_spec_PagesFrom : Con := ⟨P_spec_PagesFrom, R_spec_PagesFrom, F_spec_PagesFrom, false⟩
abbrev G_spec_PagesFrom : Env := [(65, C_spec_l1In), (211, C_spec_l4Entry)]
theorem g_spec_PagesFrom : EnvOk Tryz.prog G_spec_PagesFrom := (env_cons s_spec_l1In (env_cons s_spec_l4Entry env_nil))
abbrev c_spec_PagesFrom_5 : Cut := ⟨i_spec_PagesFrom_5, o_spec_PagesFrom_5, fun x => iterF l_spec_PagesFrom_5 lots x⟩
theorem t_spec_PagesFrom_5 (rec x) : run T G_spec_PagesFrom [] (nav Tryz.f176 [1, 1, 1, 0, 1, 0, 0]) (mk 34 i_spec_PagesFrom_5 x) (loopK i_spec_PagesFrom_5 o_spec_PagesFrom_5 rec) = l_spec_PagesFrom_5 rec x := by kernel_rfl
theorem k_spec_PagesFrom_5 : CutOk Tryz.prog 34 (.loop (nav Tryz.f176 [1, 1, 1, 0, 1, 0, 0])) c_spec_PagesFrom_5 :=
  loop_cut (L := []) hT g_spec_PagesFrom t_spec_PagesFrom_5 (plain_ok (by kernel_rfl)) _
theorem r_spec_PagesFrom (x) : runFn T G_spec_PagesFrom [(5, c_spec_PagesFrom_5)] Tryz.f176 P_spec_PagesFrom R_spec_PagesFrom x = F_spec_PagesFrom x := by kernel_rfl
theorem s_spec_PagesFrom : CallsOk Tryz.prog 176 C_spec_PagesFrom :=
  fn_calls (L := [(5, c_spec_PagesFrom_5)]) hT g_spec_PagesFrom Tryz.f176 (by kernel_rfl) (by kernel_rfl) (by kernel_rfl) (seq_ok (plain_ok (by kernel_rfl)) (seq_ok (plain_ok (by kernel_rfl)) (seq_ok (plain_ok (by kernel_rfl)) (seq_ok (seq_ok (plain_ok (by kernel_rfl)) (block_ok (by kernel_rfl) (loop_ok (by kernel_rfl) k_spec_PagesFrom_5))) (plain_ok (by kernel_rfl)))))) r_spec_PagesFrom
/-! spec.l10Space -/
abbrev P_spec_l10Space : List PK := [.ptr Y110]
abbrev R_spec_l10Space : List VK := [.s (.own 68 Y67), .s (.dat .bool)]
abbrev i_spec_l10Space_5 : Shp := { slots := [(5, .s (.own 68 Y67)), (6, .s (.dat YI))], boxes := [], rows := [] }
abbrev o_spec_l10Space_5 : List (Ex × Shp) := [(.exit 0, { slots := [(5, .s (.own 68 Y67))], boxes := [], rows := [] })]
def l_spec_l10Space_5 (rec : i_spec_l10Space_5.den → Option (denO o_spec_l10Space_5)) (u5 : i_spec_l10Space_5.den) : Option (denO o_spec_l10Space_5) :=
  if (ltI u5.1.2.1 (8 : Int)) then
    if (u5.1.1.length + [(u5.1.2.1, ((7 : Int), ()))].length) * 16 ≤ 140737488355328 then
      let v2 := (u5.1.1 ++ [(u5.1.2.1, ((7 : Int), ()))])
      let v3 := (IntKind.i64.wrap (u5.1.2.1 + (1 : Int)))
      rec ((v2, (v3, ())), ((), ()))
    else none
  else
    some (.inl ((u5.1.1, ()), ((), ())))
def L_spec_l10Space_5 (x : i_spec_l10Space_5.den) : Option (denO o_spec_l10Space_5) := iterF l_spec_l10Space_5 lots x
def F_spec_l10Space (x : denP P_spec_l10Space) : Option (denV R_spec_l10Space × denQ P_spec_l10Space) :=
  ((x.1.2.2.2.1.2.2.1)[((10 : Int)).toNat]?).bind fun y1 =>
  if (y1 == (0 : Int)) then
    (L_spec_l10Space_5 ((([] : List (den Y67)), ((0 : Int), ())), ((), ()))).bind fun z4 =>
    match z4 with
    | .inl x5 =>
      some ((x5.1.1, true, ()), ())
    | .inr z4_ =>
      none
  else
    let v6 := (IntKind.i64.wrap (y1 - (1 : Int)))
    let v7 := (IntKind.i64.wrap (v6 * (8 : Int)))
    (F_spec_l4Walk (x.1.1, v7, (1 : Int), ())).bind fun r8 =>
    if (y1 == (8 : Int)) = false then
      if (ltI r8.1.1 (0 : Int)) then
        some ((([] : List (den Y67)), false, ()), ())
      else
        let v9 := (IntKind.i64.wrap (r8.1.1 + (8 : Int)))
        if 0 ≤ r8.1.1 ∧ r8.1.1 ≤ v9 ∧ v9 ≤ ((x.1.2.1.length : Nat) : Int) then
          let v10 := ((x.1.2.1.drop (r8.1.1).toNat).take ((v9).toNat - (r8.1.1).toNat))
          (F_spec_PagesFrom (v10, ())).bind fun r11 =>
          some ((r11.1.1.2.1, true, ()), ())
        else none
    else
      some ((([] : List (den Y67)), false, ()), ())
abbrev C_spec_l10Space : Con := ⟨P_spec_l10Space, R_spec_l10Space, F_spec_l10Space, false⟩
abbrev G_spec_l10Space : Env := [(131, C_spec_l4Walk), (176, C_spec_PagesFrom)]
theorem g_spec_l10Space : EnvOk Tryz.prog G_spec_l10Space := (env_cons s_spec_l4Walk (env_cons s_spec_PagesFrom env_nil))
abbrev c_spec_l10Space_5 : Cut := ⟨i_spec_l10Space_5, o_spec_l10Space_5, fun x => iterF l_spec_l10Space_5 lots x⟩
theorem t_spec_l10Space_5 (rec x) : run T G_spec_l10Space [] (nav Tryz.f130 [1, 1, 0, 1, 0, 1, 0, 1, 0, 0]) (mk 52 i_spec_l10Space_5 x) (loopK i_spec_l10Space_5 o_spec_l10Space_5 rec) = l_spec_l10Space_5 rec x := by kernel_rfl
theorem k_spec_l10Space_5 : CutOk Tryz.prog 52 (.loop (nav Tryz.f130 [1, 1, 0, 1, 0, 1, 0, 1, 0, 0])) c_spec_l10Space_5 :=
  loop_cut (L := []) hT g_spec_l10Space t_spec_l10Space_5 (plain_ok (by kernel_rfl)) _
theorem r_spec_l10Space (x) : runFn T G_spec_l10Space [(5, c_spec_l10Space_5)] Tryz.f130 P_spec_l10Space R_spec_l10Space x = F_spec_l10Space x := by kernel_rfl
theorem s_spec_l10Space : CallsOk Tryz.prog 130 C_spec_l10Space :=
  fn_calls (L := [(5, c_spec_l10Space_5)]) hT g_spec_l10Space Tryz.f130 (by kernel_rfl) (by kernel_rfl) (by kernel_rfl) (seq_ok (plain_ok (by kernel_rfl)) (seq_ok (plain_ok (by kernel_rfl)) (seq_ok (seq_ok (plain_ok (by kernel_rfl)) (cond_ok (seq_ok (plain_ok (by kernel_rfl)) (seq_ok (seq_ok (plain_ok (by kernel_rfl)) (block_ok (by kernel_rfl) (loop_ok (by kernel_rfl) k_spec_l10Space_5))) (plain_ok (by kernel_rfl)))) (plain_ok (by kernel_rfl)))) (plain_ok (by kernel_rfl))))) r_spec_l10Space
/-! spec.l4Code -/
abbrev P_spec_l4Code : List PK := [.val YI]
abbrev R_spec_l4Code : List VK := [.s (.dat YI)]
def F_spec_l4Code (x : denP P_spec_l4Code) : Option (denV R_spec_l4Code × denQ P_spec_l4Code) :=
  if (x.1 == (1 : Int)) then
    some (((7 : Int), ()), ())
  else
    if (x.1 == (2 : Int)) then
      some (((8 : Int), ()), ())
    else
      some (((9 : Int), ()), ())
abbrev C_spec_l4Code : Con := ⟨P_spec_l4Code, R_spec_l4Code, F_spec_l4Code, false⟩
abbrev G_spec_l4Code : Env := []
theorem g_spec_l4Code : EnvOk Tryz.prog G_spec_l4Code := env_nil
theorem r_spec_l4Code (x) : runFn T G_spec_l4Code [] Tryz.f132 P_spec_l4Code R_spec_l4Code x = F_spec_l4Code x := by kernel_rfl
theorem s_spec_l4Code : CallsOk Tryz.prog 132 C_spec_l4Code :=
  fn_calls (L := []) hT g_spec_l4Code Tryz.f132 (by kernel_rfl) (by kernel_rfl) (by kernel_rfl) (plain_ok (by kernel_rfl)) r_spec_l4Code
/-! spec.l10Place -/
abbrev P_spec_l10Place : List PK := [.ptr Y110, .val YI, .val YI]
abbrev R_spec_l10Place : List VK := [.s (.dat YI), .s (.dat YI)]
def F_spec_l10Place (x : denP P_spec_l10Place) : Option (denV R_spec_l10Place × denQ P_spec_l10Place) :=
  (F_spec_l10Space (x.1, ())).bind fun r1 =>
  if (!r1.1.2.1) then
    some (((0 : Int), (7 : Int), ()), ())
  else
    (F_spec_l4Walk (r1.1.1, x.2.1, x.2.2.1, ())).bind fun r2 =>
    if (ltI r2.1.1 (0 : Int)) then
      (F_spec_l4Code (x.2.2.1, ())).bind fun r3 =>
      some (((0 : Int), r3.1.1, ()), ())
    else
      let v4 := (IntKind.i64.wrap ((r2.1.1).tdiv (8 : Int)))
      if (v4 == (7 : Int)) then
        if (x.2.2.1 == (4 : Int)) then
          some (((0 : Int), (9 : Int), ()), ())
        else
          let v5 := ((r2.1.1).tmod (8 : Int))
          let v6 := (IntKind.i64.wrap ((1000 : Int) + v5))
          some ((v6, (0 : Int), ()), ())
      else
        (F_spec_l4Walk (x.1.1, r2.1.1, x.2.2.1, ())).bind fun r7 =>
        if (ltI r7.1.1 (0 : Int)) then
          (F_spec_l4Code (x.2.2.1, ())).bind fun r8 =>
          some (((0 : Int), r8.1.1, ()), ())
        else
          some ((r7.1.1, (0 : Int), ()), ())
abbrev C_spec_l10Place : Con := ⟨P_spec_l10Place, R_spec_l10Place, F_spec_l10Place, false⟩
abbrev G_spec_l10Place : Env := [(130, C_spec_l10Space), (131, C_spec_l4Walk), (132, C_spec_l4Code)]
theorem g_spec_l10Place : EnvOk Tryz.prog G_spec_l10Place := (env_cons s_spec_l10Space (env_cons s_spec_l4Walk (env_cons s_spec_l4Code env_nil)))
theorem r_spec_l10Place (x) : runFn T G_spec_l10Place [] Tryz.f81 P_spec_l10Place R_spec_l10Place x = F_spec_l10Place x := by kernel_rfl
theorem s_spec_l10Place : CallsOk Tryz.prog 81 C_spec_l10Place :=
  fn_calls (L := []) hT g_spec_l10Place Tryz.f81 (by kernel_rfl) (by kernel_rfl) (by kernel_rfl) (plain_ok (by kernel_rfl)) r_spec_l10Place
/-! spec.l2Bare -/
abbrev P_spec_l2Bare : List PK := [.val YI]
abbrev R_spec_l2Bare : List VK := [.s (.dat .bool), .s (.dat .bool), .s (.dat .bool)]
def F_spec_l2Bare (x : denP P_spec_l2Bare) : Option (denV R_spec_l2Bare × denQ P_spec_l2Bare) :=
  if (x.1 == (13 : Int)) then
    some ((false, true, false, ()), ())
  else
    if (x.1 == (19 : Int)) then
      some ((false, true, false, ()), ())
    else
      if (x.1 == (21 : Int)) then
        some ((false, true, false, ()), ())
      else
        if (x.1 == (22 : Int)) then
          some ((true, false, false, ()), ())
        else
          if (x.1 == (23 : Int)) then
            some ((true, true, true, ()), ())
          else
            if (x.1 == (24 : Int)) then
              some ((true, true, true, ()), ())
            else
              if (x.1 == (25 : Int)) then
                some ((true, true, true, ()), ())
              else
                if (x.1 == (26 : Int)) then
                  some ((true, true, true, ()), ())
                else
                  some ((false, false, false, ()), ())
abbrev C_spec_l2Bare : Con := ⟨P_spec_l2Bare, R_spec_l2Bare, F_spec_l2Bare, false⟩
abbrev G_spec_l2Bare : Env := []
theorem g_spec_l2Bare : EnvOk Tryz.prog G_spec_l2Bare := env_nil
theorem r_spec_l2Bare (x) : runFn T G_spec_l2Bare [] Tryz.f189 P_spec_l2Bare R_spec_l2Bare x = F_spec_l2Bare x := by kernel_rfl
theorem s_spec_l2Bare : CallsOk Tryz.prog 189 C_spec_l2Bare :=
  fn_calls (L := []) hT g_spec_l2Bare Tryz.f189 (by kernel_rfl) (by kernel_rfl) (by kernel_rfl) (plain_ok (by kernel_rfl)) r_spec_l2Bare
/-! spec.InsFault -/
abbrev P_spec_InsFault : List PK := [.val Y72]
abbrev R_spec_InsFault : List VK := [.s (.dat YI)]
def F_spec_InsFault (x : denP P_spec_InsFault) : Option (denV R_spec_InsFault × denQ P_spec_InsFault) :=
  (F_spec_l1In (x.1.1, (1 : Int), (26 : Int), ())).bind fun r1 =>
  if (!r1.1.1) = false then
    (F_spec_l1In (x.1.2.1, (0 : Int), (15 : Int), ())).bind fun r2 =>
    if (!r2.1.1) = false then
      (F_spec_l1In (x.1.2.2.1, (0 : Int), (15 : Int), ())).bind fun r3 =>
      if (!r3.1.1) = false then
        (F_spec_l1In (x.1.2.2.2.1, (0 : Int), (65535 : Int), ())).bind fun r4 =>
        if (!r4.1.1) then
          some (((3 : Int), ()), ())
        else
          (F_spec_l2Bare (x.1.1, ())).bind fun r5 =>
          if r5.1.1 = true then
            if (x.1.2.1 != (0 : Int)) = false then
              if r5.1.2.1 = true then
                if (x.1.2.2.1 != (0 : Int)) = false then
                  if r5.1.2.2.1 = true then
                    if (x.1.2.2.2.1 != (0 : Int)) = false then
                      if (leI x.1.1 (11 : Int)) = true then
                        if (ltI (15 : Int) x.1.2.2.2.1) = false then
                          if (x.1.1 == (21 : Int)) = false then
                            if (x.1.1 == (22 : Int)) = true then
                              if (ltI (10 : Int) x.1.2.2.2.1) then
                                some (((1 : Int), ()), ())
                              else
                                some (((0 : Int), ()), ())
                            else
                              some (((0 : Int), ()), ())
                          else
                            if (ltI (10 : Int) x.1.2.2.2.1) then
                              some (((1 : Int), ()), ())
                            else
                              some (((0 : Int), ()), ())
                        else
                          some (((1 : Int), ()), ())
                      else
                        if (x.1.1 == (21 : Int)) = false then
                          if (x.1.1 == (22 : Int)) = true then
                            if (ltI (10 : Int) x.1.2.2.2.1) then
                              some (((1 : Int), ()), ())
                            else
                              some (((0 : Int), ()), ())
                          else
                            some (((0 : Int), ()), ())
                        else
                          if (ltI (10 : Int) x.1.2.2.2.1) then
                            some (((1 : Int), ()), ())
                          else
                            some (((0 : Int), ()), ())
                    else
                      some (((1 : Int), ()), ())
                  else
                    if (leI x.1.1 (11 : Int)) = true then
                      if (ltI (15 : Int) x.1.2.2.2.1) = false then
                        if (x.1.1 == (21 : Int)) = false then
                          if (x.1.1 == (22 : Int)) = true then
                            if (ltI (10 : Int) x.1.2.2.2.1) then
                              some (((1 : Int), ()), ())
                            else
                              some (((0 : Int), ()), ())
                          else
                            some (((0 : Int), ()), ())
                        else
                          if (ltI (10 : Int) x.1.2.2.2.1) then
                            some (((1 : Int), ()), ())
                          else
                            some (((0 : Int), ()), ())
                      else
                        some (((1 : Int), ()), ())
                    else
                      if (x.1.1 == (21 : Int)) = false then
                        if (x.1.1 == (22 : Int)) = true then
                          if (ltI (10 : Int) x.1.2.2.2.1) then
                            some (((1 : Int), ()), ())
                          else
                            some (((0 : Int), ()), ())
                        else
                          some (((0 : Int), ()), ())
                      else
                        if (ltI (10 : Int) x.1.2.2.2.1) then
                          some (((1 : Int), ()), ())
                        else
                          some (((0 : Int), ()), ())
                else
                  some (((1 : Int), ()), ())
              else
                if r5.1.2.2.1 = true then
                  if (x.1.2.2.2.1 != (0 : Int)) = false then
                    if (leI x.1.1 (11 : Int)) = true then
                      if (ltI (15 : Int) x.1.2.2.2.1) = false then
                        if (x.1.1 == (21 : Int)) = false then
                          if (x.1.1 == (22 : Int)) = true then
                            if (ltI (10 : Int) x.1.2.2.2.1) then
                              some (((1 : Int), ()), ())
                            else
                              some (((0 : Int), ()), ())
                          else
                            some (((0 : Int), ()), ())
                        else
                          if (ltI (10 : Int) x.1.2.2.2.1) then
                            some (((1 : Int), ()), ())
                          else
                            some (((0 : Int), ()), ())
                      else
                        some (((1 : Int), ()), ())
                    else
                      if (x.1.1 == (21 : Int)) = false then
                        if (x.1.1 == (22 : Int)) = true then
                          if (ltI (10 : Int) x.1.2.2.2.1) then
                            some (((1 : Int), ()), ())
                          else
                            some (((0 : Int), ()), ())
                        else
                          some (((0 : Int), ()), ())
                      else
                        if (ltI (10 : Int) x.1.2.2.2.1) then
                          some (((1 : Int), ()), ())
                        else
                          some (((0 : Int), ()), ())
                  else
                    some (((1 : Int), ()), ())
                else
                  if (leI x.1.1 (11 : Int)) = true then
                    if (ltI (15 : Int) x.1.2.2.2.1) = false then
                      if (x.1.1 == (21 : Int)) = false then
                        if (x.1.1 == (22 : Int)) = true then
                          if (ltI (10 : Int) x.1.2.2.2.1) then
                            some (((1 : Int), ()), ())
                          else
                            some (((0 : Int), ()), ())
                        else
                          some (((0 : Int), ()), ())
                      else
                        if (ltI (10 : Int) x.1.2.2.2.1) then
                          some (((1 : Int), ()), ())
                        else
                          some (((0 : Int), ()), ())
                    else
                      some (((1 : Int), ()), ())
                  else
                    if (x.1.1 == (21 : Int)) = false then
                      if (x.1.1 == (22 : Int)) = true then
                        if (ltI (10 : Int) x.1.2.2.2.1) then
                          some (((1 : Int), ()), ())
                        else
                          some (((0 : Int), ()), ())
                      else
                        some (((0 : Int), ()), ())
                    else
                      if (ltI (10 : Int) x.1.2.2.2.1) then
                        some (((1 : Int), ()), ())
                      else
                        some (((0 : Int), ()), ())
            else
              some (((1 : Int), ()), ())
          else
            if r5.1.2.1 = true then
              if (x.1.2.2.1 != (0 : Int)) = false then
                if r5.1.2.2.1 = true then
                  if (x.1.2.2.2.1 != (0 : Int)) = false then
                    if (leI x.1.1 (11 : Int)) = true then
                      if (ltI (15 : Int) x.1.2.2.2.1) = false then
                        if (x.1.1 == (21 : Int)) = false then
                          if (x.1.1 == (22 : Int)) = true then
                            if (ltI (10 : Int) x.1.2.2.2.1) then
                              some (((1 : Int), ()), ())
                            else
                              some (((0 : Int), ()), ())
                          else
                            some (((0 : Int), ()), ())
                        else
                          if (ltI (10 : Int) x.1.2.2.2.1) then
                            some (((1 : Int), ()), ())
                          else
                            some (((0 : Int), ()), ())
                      else
                        some (((1 : Int), ()), ())
                    else
                      if (x.1.1 == (21 : Int)) = false then
                        if (x.1.1 == (22 : Int)) = true then
                          if (ltI (10 : Int) x.1.2.2.2.1) then
                            some (((1 : Int), ()), ())
                          else
                            some (((0 : Int), ()), ())
                        else
                          some (((0 : Int), ()), ())
                      else
                        if (ltI (10 : Int) x.1.2.2.2.1) then
                          some (((1 : Int), ()), ())
                        else
                          some (((0 : Int), ()), ())
                  else
                    some (((1 : Int), ()), ())
                else
                  if (leI x.1.1 (11 : Int)) = true then
                    if (ltI (15 : Int) x.1.2.2.2.1) = false then
                      if (x.1.1 == (21 : Int)) = false then
                        if (x.1.1 == (22 : Int)) = true then
                          if (ltI (10 : Int) x.1.2.2.2.1) then
                            some (((1 : Int), ()), ())
                          else
                            some (((0 : Int), ()), ())
                        else
                          some (((0 : Int), ()), ())
                      else
                        if (ltI (10 : Int) x.1.2.2.2.1) then
                          some (((1 : Int), ()), ())
                        else
                          some (((0 : Int), ()), ())
                    else
                      some (((1 : Int), ()), ())
                  else
                    if (x.1.1 == (21 : Int)) = false then
                      if (x.1.1 == (22 : Int)) = true then
                        if (ltI (10 : Int) x.1.2.2.2.1) then
                          some (((1 : Int), ()), ())
                        else
                          some (((0 : Int), ()), ())
                      else
                        some (((0 : Int), ()), ())
                    else
                      if (ltI (10 : Int) x.1.2.2.2.1) then
                        some (((1 : Int), ()), ())
                      else
                        some (((0 : Int), ()), ())
              else
                some (((1 : Int), ()), ())
            else
              if r5.1.2.2.1 = true then
                if (x.1.2.2.2.1 != (0 : Int)) = false then
                  if (leI x.1.1 (11 : Int)) = true then
                    if (ltI (15 : Int) x.1.2.2.2.1) = false then
                      if (x.1.1 == (21 : Int)) = false then
                        if (x.1.1 == (22 : Int)) = true then
                          if (ltI (10 : Int) x.1.2.2.2.1) then
                            some (((1 : Int), ()), ())
                          else
                            some (((0 : Int), ()), ())
                        else
                          some (((0 : Int), ()), ())
                      else
                        if (ltI (10 : Int) x.1.2.2.2.1) then
                          some (((1 : Int), ()), ())
                        else
                          some (((0 : Int), ()), ())
                    else
                      some (((1 : Int), ()), ())
                  else
                    if (x.1.1 == (21 : Int)) = false then
                      if (x.1.1 == (22 : Int)) = true then
                        if (ltI (10 : Int) x.1.2.2.2.1) then
                          some (((1 : Int), ()), ())
                        else
                          some (((0 : Int), ()), ())
                      else
                        some (((0 : Int), ()), ())
                    else
                      if (ltI (10 : Int) x.1.2.2.2.1) then
                        some (((1 : Int), ()), ())
                      else
                        some (((0 : Int), ()), ())
                else
                  some (((1 : Int), ()), ())
              else
                if (leI x.1.1 (11 : Int)) = true then
                  if (ltI (15 : Int) x.1.2.2.2.1) = false then
                    if (x.1.1 == (21 : Int)) = false then
                      if (x.1.1 == (22 : Int)) = true then
                        if (ltI (10 : Int) x.1.2.2.2.1) then
                          some (((1 : Int), ()), ())
                        else
                          some (((0 : Int), ()), ())
                      else
                        some (((0 : Int), ()), ())
                    else
                      if (ltI (10 : Int) x.1.2.2.2.1) then
                        some (((1 : Int), ()), ())
                      else
                        some (((0 : Int), ()), ())
                  else
                    some (((1 : Int), ()), ())
                else
                  if (x.1.1 == (21 : Int)) = false then
                    if (x.1.1 == (22 : Int)) = true then
                      if (ltI (10 : Int) x.1.2.2.2.1) then
                        some (((1 : Int), ()), ())
                      else
                        some (((0 : Int), ()), ())
                    else
                      some (((0 : Int), ()), ())
                  else
                    if (ltI (10 : Int) x.1.2.2.2.1) then
                      some (((1 : Int), ()), ())
                    else
                      some (((0 : Int), ()), ())
      else
        some (((3 : Int), ()), ())
    else
      some (((3 : Int), ()), ())
  else
    some (((3 : Int), ()), ())
abbrev C_spec_InsFault : Con := ⟨P_spec_InsFault, R_spec_InsFault, F_spec_InsFault, false⟩
abbrev G_spec_InsFault : Env := [(65, C_spec_l1In), (189, C_spec_l2Bare)]
theorem g_spec_InsFault : EnvOk Tryz.prog G_spec_InsFault := (env_cons s_spec_l1In (env_cons s_spec_l2Bare env_nil))
theorem r_spec_InsFault (x) : runFn T G_spec_InsFault [] Tryz.f156 P_spec_InsFault R_spec_InsFault x = F_spec_InsFault x := by kernel_rfl
theorem s_spec_InsFault : CallsOk Tryz.prog 156 C_spec_InsFault :=
  fn_calls (L := []) hT g_spec_InsFault Tryz.f156 (by kernel_rfl) (by kernel_rfl) (by kernel_rfl) (plain_ok (by kernel_rfl)) r_spec_InsFault
/-! spec.l2Decode -/
abbrev P_spec_l2Decode : List PK := [.val YI]
abbrev R_spec_l2Decode : List VK := [.s (.dat Y72), .s (.dat .bool)]
def F_spec_l2Decode (x : denP P_spec_l2Decode) : Option (denV R_spec_l2Decode × denQ P_spec_l2Decode) :=
  (F_spec_l1In (x.1, (0 : Int), (4294967295 : Int), ())).bind fun r1 =>
  if (!r1.1.1) then
    some ((((0 : Int), ((0 : Int), ((0 : Int), ((0 : Int), ())))), false, ()), ())
  else
    let v2 := ((x.1).fdiv (2 ^ 24))
    let v3 := ((x.1).fdiv (2 ^ 20))
    let v4 := (iand .i64 v3 (15 : Int))
    let v5 := ((x.1).fdiv (2 ^ 16))
    let v6 := (iand .i64 v5 (15 : Int))
    let v7 := (iand .i64 x.1 (65535 : Int))
    (F_spec_InsFault ((v2, (v4, (v6, (v7, ())))), ())).bind fun r8 =>
    some (((v2, (v4, (v6, (v7, ())))), (r8.1.1 == (0 : Int)), ()), ())
abbrev C_spec_l2Decode : Con := ⟨P_spec_l2Decode, R_spec_l2Decode, F_spec_l2Decode, false⟩
abbrev G_spec_l2Decode : Env := [(65, C_spec_l1In), (156, C_spec_InsFault)]
theorem g_spec_l2Decode : EnvOk Tryz.prog G_spec_l2Decode := (env_cons s_spec_l1In (env_cons s_spec_InsFault env_nil))
theorem r_spec_l2Decode (x) : runFn T G_spec_l2Decode [] Tryz.f110 P_spec_l2Decode R_spec_l2Decode x = F_spec_l2Decode x := by kernel_rfl
theorem s_spec_l2Decode : CallsOk Tryz.prog 110 C_spec_l2Decode :=
  fn_calls (L := []) hT g_spec_l2Decode Tryz.f110 (by kernel_rfl) (by kernel_rfl) (by kernel_rfl) (plain_ok (by kernel_rfl)) r_spec_l2Decode
/-! spec.AddWords -/
abbrev P_spec_AddWords : List PK := [.val YI, .val YI]
abbrev R_spec_AddWords : List VK := [.s (.dat YI)]
def F_spec_AddWords (x : denP P_spec_AddWords) : Option (denV R_spec_AddWords × denQ P_spec_AddWords) :=
  let v1 := (IntKind.u32.wrap x.1)
  let v2 := (IntKind.u32.wrap x.2.1)
  let v3 := (IntKind.u32.wrap (v1 + v2))
  let v4 := (IntKind.i64.wrap v3)
  some ((v4, ()), ())
abbrev C_spec_AddWords : Con := ⟨P_spec_AddWords, R_spec_AddWords, F_spec_AddWords, false⟩
abbrev G_spec_AddWords : Env := []
theorem g_spec_AddWords : EnvOk Tryz.prog G_spec_AddWords := env_nil
theorem r_spec_AddWords (x) : runFn T G_spec_AddWords [] Tryz.f157 P_spec_AddWords R_spec_AddWords x = F_spec_AddWords x := by kernel_rfl
theorem s_spec_AddWords : CallsOk Tryz.prog 157 C_spec_AddWords :=
  fn_calls (L := []) hT g_spec_AddWords Tryz.f157 (by kernel_rfl) (by kernel_rfl) (by kernel_rfl) (plain_ok (by kernel_rfl)) r_spec_AddWords
/-! spec.OffsetOf -/
abbrev P_spec_OffsetOf : List PK := [.val YI]
abbrev R_spec_OffsetOf : List VK := [.s (.dat YI)]
def F_spec_OffsetOf (x : denP P_spec_OffsetOf) : Option (denV R_spec_OffsetOf × denQ P_spec_OffsetOf) :=
  let v1 := (IntKind.u16.wrap x.1)
  let v2 := (IntKind.i16.wrap v1)
  let v3 := (IntKind.i64.wrap v2)
  some ((v3, ()), ())
abbrev C_spec_OffsetOf : Con := ⟨P_spec_OffsetOf, R_spec_OffsetOf, F_spec_OffsetOf, false⟩
abbrev G_spec_OffsetOf : Env := []
theorem g_spec_OffsetOf : EnvOk Tryz.prog G_spec_OffsetOf := env_nil
theorem r_spec_OffsetOf (x) : runFn T G_spec_OffsetOf [] Tryz.f158 P_spec_OffsetOf R_spec_OffsetOf x = F_spec_OffsetOf x := by kernel_rfl
theorem s_spec_OffsetOf : CallsOk Tryz.prog 158 C_spec_OffsetOf :=
  fn_calls (L := []) hT g_spec_OffsetOf Tryz.f158 (by kernel_rfl) (by kernel_rfl) (by kernel_rfl) (plain_ok (by kernel_rfl)) r_spec_OffsetOf
/-! spec.l10Put -/
abbrev P_spec_l10Put : List PK := [.box [.dat Y25, .own 2 YI, .dat YI, .own 2 YI, .dat YI, .own 2 YI, .dat .bool, .dat .bool, .dat .bool, .dat YI, .dat Y22, .own 2 YI, .dat YI] [.dat Y25, .own 2 YI, .dat YI, .own 2 YI, .dat YI, .own 2 YI, .dat .bool, .dat .bool, .dat .bool, .dat YI, .dat Y22, .own 2 YI, .dat YI], .val YI, .val YI]
abbrev R_spec_l10Put : List VK := []
def F_spec_l10Put (x : denP P_spec_l10Put) : Option (denV R_spec_l10Put × denQ P_spec_l10Put) :=
  if (x.2.1 != (0 : Int)) then
    if 0 ≤ x.2.1 ∧ x.2.1 < ((x.1.2.2.2.1.length : Nat) : Int) then
      ((x.1.2.2.2.1)[(x.2.1).toNat]?).bind fun y1 =>
      let v2 := (x.1.2.2.2.1.set (x.2.1).toNat x.2.2.1)
      some ((), ((x.1.1, (x.1.2.1, (x.1.2.2.1, (v2, (x.1.2.2.2.2.1, (x.1.2.2.2.2.2.1, (x.1.2.2.2.2.2.2.1, (x.1.2.2.2.2.2.2.2.1, (x.1.2.2.2.2.2.2.2.2.1, (x.1.2.2.2.2.2.2.2.2.2.1, (x.1.2.2.2.2.2.2.2.2.2.2.1, (x.1.2.2.2.2.2.2.2.2.2.2.2.1, (x.1.2.2.2.2.2.2.2.2.2.2.2.2.1, ()))))))))))))), ()))
    else none
  else
    some ((), (x.1, ()))
abbrev C_spec_l10Put : Con := ⟨P_spec_l10Put, R_spec_l10Put, F_spec_l10Put, false⟩
abbrev G_spec_l10Put : Env := []
theorem g_spec_l10Put : EnvOk Tryz.prog G_spec_l10Put := env_nil
theorem r_spec_l10Put (x) : runFn T G_spec_l10Put [] Tryz.f159 P_spec_l10Put R_spec_l10Put x = F_spec_l10Put x := by kernel_rfl
theorem s_spec_l10Put : CallsOk Tryz.prog 159 C_spec_l10Put :=
  fn_calls (L := []) hT g_spec_l10Put Tryz.f159 (by kernel_rfl) (by kernel_rfl) (by kernel_rfl) (plain_ok (by kernel_rfl)) r_spec_l10Put
/-! spec.l9Read -/
abbrev P_spec_l9Read : List PK := [.box [.own 2 YI, .dat YI, .own 2 YI, .dat .bool, .dat .bool, .dat .bool, .dat YI, .dat Y22, .own 2 YI] [.own 2 YI, .dat YI, .own 2 YI, .dat .bool, .dat .bool, .dat .bool, .dat YI, .dat Y22, .own 2 YI], .val YI]
abbrev R_spec_l9Read : List VK := [.s (.dat YI)]
def F_spec_l9Read (x : denP P_spec_l9Read) : Option (denV R_spec_l9Read × denQ P_spec_l9Read) :=
  if (x.2.1 == (1 : Int)) then
    let v1 := ((x.1.2.2.2.2.2.2.2.1.length : Nat) : Int)
    if (v1 == (0 : Int)) then
      some (((0 : Int), ()), (x.1, ()))
    else
      ((x.1.2.2.2.2.2.2.2.1)[((0 : Int)).toNat]?).bind fun y2 =>
      if 0 ≤ (1 : Int) ∧ (1 : Int) ≤ ((x.1.2.2.2.2.2.2.2.1.length : Nat) : Int) ∧ ((x.1.2.2.2.2.2.2.2.1.length : Nat) : Int) ≤ ((x.1.2.2.2.2.2.2.2.1.length : Nat) : Int) then
        let v3 := ((x.1.2.2.2.2.2.2.2.1.drop ((1 : Int)).toNat).take ((((x.1.2.2.2.2.2.2.2.1.length : Nat) : Int)).toNat - ((1 : Int)).toNat))
        some ((y2, ()), ((x.1.1, (x.1.2.1, (x.1.2.2.1, (x.1.2.2.2.1, (x.1.2.2.2.2.1, (x.1.2.2.2.2.2.1, (x.1.2.2.2.2.2.2.1, (v3, (x.1.2.2.2.2.2.2.2.2.1, ()))))))))), ()))
      else none
  else
    if (x.2.1 == (2 : Int)) then
      some ((x.1.2.2.2.2.2.2.1, ()), (x.1, ()))
    else
      if (x.2.1 == (3 : Int)) then
        if 0 ≤ (9 : Int) ∧ (9 : Int) < ((x.1.2.2.1.length : Nat) : Int) then
          ((x.1.2.2.1)[((9 : Int)).toNat]?).bind fun y4 =>
          some ((y4, ()), (x.1, ()))
        else none
      else
        if (x.2.1 == (4 : Int)) then
          (F_spec_l8Pending (x.1, ())).bind fun r5 =>
          some ((r5.1.1, ()), (x.1, ()))
        else
          if (x.2.1 == (6 : Int)) then
            let v6 := ((x.1.2.2.2.2.2.2.2.1.length : Nat) : Int)
            some ((v6, ()), (x.1, ()))
          else
            some (((0 : Int), ()), (x.1, ()))
abbrev C_spec_l9Read : Con := ⟨P_spec_l9Read, R_spec_l9Read, F_spec_l9Read, false⟩
abbrev G_spec_l9Read : Env := [(109, C_spec_l8Pending)]
theorem g_spec_l9Read : EnvOk Tryz.prog G_spec_l9Read := (env_cons s_spec_l8Pending env_nil)
theorem r_spec_l9Read (x) : runFn T G_spec_l9Read [] Tryz.f190 P_spec_l9Read R_spec_l9Read x = F_spec_l9Read x := by kernel_rfl
theorem s_spec_l9Read : CallsOk Tryz.prog 190 C_spec_l9Read :=
  fn_calls (L := []) hT g_spec_l9Read Tryz.f190 (by kernel_rfl) (by kernel_rfl) (by kernel_rfl) (plain_ok (by kernel_rfl)) r_spec_l9Read
/-! spec.WrapWord -/
abbrev P_spec_WrapWord : List PK := [.val YI]
abbrev R_spec_WrapWord : List VK := [.s (.dat YI)]
def F_spec_WrapWord (x : denP P_spec_WrapWord) : Option (denV R_spec_WrapWord × denQ P_spec_WrapWord) :=
  let v1 := (IntKind.u32.wrap x.1)
  let v2 := (IntKind.i64.wrap v1)
  some ((v2, ()), ())
abbrev C_spec_WrapWord : Con := ⟨P_spec_WrapWord, R_spec_WrapWord, F_spec_WrapWord, false⟩
abbrev G_spec_WrapWord : Env := []
theorem g_spec_WrapWord : EnvOk Tryz.prog G_spec_WrapWord := env_nil
theorem r_spec_WrapWord (x) : runFn T G_spec_WrapWord [] Tryz.f193 P_spec_WrapWord R_spec_WrapWord x = F_spec_WrapWord x := by kernel_rfl
theorem s_spec_WrapWord : CallsOk Tryz.prog 193 C_spec_WrapWord :=
  fn_calls (L := []) hT g_spec_WrapWord Tryz.f193 (by kernel_rfl) (by kernel_rfl) (by kernel_rfl) (plain_ok (by kernel_rfl)) r_spec_WrapWord
/-! spec.l8Set -/
abbrev P_spec_l8Set : List PK := [.box [.own 2 YI, .dat YI, .own 2 YI, .dat .bool, .dat .bool, .dat .bool, .dat YI, .dat Y22, .own 2 YI] [.own 2 YI, .dat YI, .own 2 YI, .dat .bool, .dat .bool, .dat .bool, .dat YI, .dat Y22, .own 2 YI], .val YI, .val YI]
abbrev R_spec_l8Set : List VK := []
def F_spec_l8Set (x : denP P_spec_l8Set) : Option (denV R_spec_l8Set × denQ P_spec_l8Set) :=
  (F_spec_WrapWord (x.2.2.1, ())).bind fun r1 =>
  if (x.2.1 == (0 : Int)) then
    let v2 := ((r1.1.1).tmod (4 : Int))
    if 0 ≤ x.2.1 ∧ x.2.1 < ((x.1.2.2.1.length : Nat) : Int) then
      ((x.1.2.2.1)[(x.2.1).toNat]?).bind fun y3 =>
      let v4 := (x.1.2.2.1.set (x.2.1).toNat v2)
      some ((), ((x.1.1, (x.1.2.1, (v4, (x.1.2.2.2.1, (x.1.2.2.2.2.1, (x.1.2.2.2.2.2.1, (x.1.2.2.2.2.2.2.1, (x.1.2.2.2.2.2.2.2.1, (x.1.2.2.2.2.2.2.2.2.1, ()))))))))), ()))
    else none
  else
    if (x.2.1 == (7 : Int)) then
      let v5 := ((r1.1.1).tmod (8 : Int))
      if 0 ≤ x.2.1 ∧ x.2.1 < ((x.1.2.2.1.length : Nat) : Int) then
        ((x.1.2.2.1)[(x.2.1).toNat]?).bind fun y6 =>
        let v7 := (x.1.2.2.1.set (x.2.1).toNat v5)
        some ((), ((x.1.1, (x.1.2.1, (v7, (x.1.2.2.2.1, (x.1.2.2.2.2.1, (x.1.2.2.2.2.2.1, (x.1.2.2.2.2.2.2.1, (x.1.2.2.2.2.2.2.2.1, (x.1.2.2.2.2.2.2.2.2.1, ()))))))))), ()))
      else none
    else
      if (x.2.1 == (10 : Int)) then
        if 0 ≤ x.2.1 ∧ x.2.1 < ((x.1.2.2.1.length : Nat) : Int) then
          ((x.1.2.2.1)[(x.2.1).toNat]?).bind fun y8 =>
          let v9 := (x.1.2.2.1.set (x.2.1).toNat (0 : Int))
          if (leI r1.1.1 (8 : Int)) then
            if 0 ≤ x.2.1 ∧ x.2.1 < ((v9.length : Nat) : Int) then
              ((v9)[(x.2.1).toNat]?).bind fun y10 =>
              let v11 := (v9.set (x.2.1).toNat r1.1.1)
              some ((), ((x.1.1, (x.1.2.1, (v11, (x.1.2.2.2.1, (x.1.2.2.2.2.1, (x.1.2.2.2.2.2.1, (x.1.2.2.2.2.2.2.1, (x.1.2.2.2.2.2.2.2.1, (x.1.2.2.2.2.2.2.2.2.1, ()))))))))), ()))
            else none
          else
            some ((), ((x.1.1, (x.1.2.1, (v9, (x.1.2.2.2.1, (x.1.2.2.2.2.1, (x.1.2.2.2.2.2.1, (x.1.2.2.2.2.2.2.1, (x.1.2.2.2.2.2.2.2.1, (x.1.2.2.2.2.2.2.2.2.1, ()))))))))), ()))
        else none
      else
        if (x.2.1 == (6 : Int)) then
          if x.1.2.2.2.2.2.1 = true then
            let v12 := ((r1.1.1).tmod (4 : Int))
            some ((), ((x.1.1, (x.1.2.1, (x.1.2.2.1, (x.1.2.2.2.1, (x.1.2.2.2.2.1, ((ltI v12 (2 : Int)), (x.1.2.2.2.2.2.2.1, (x.1.2.2.2.2.2.2.2.1, (x.1.2.2.2.2.2.2.2.2.1, ()))))))))), ()))
          else
            some ((), ((x.1.1, (x.1.2.1, (x.1.2.2.1, (x.1.2.2.2.1, (x.1.2.2.2.2.1, (false, (x.1.2.2.2.2.2.2.1, (x.1.2.2.2.2.2.2.2.1, (x.1.2.2.2.2.2.2.2.2.1, ()))))))))), ()))
        else
          if (x.2.1 == (8 : Int)) then
            some ((), (x.1, ()))
          else
            if 0 ≤ x.2.1 ∧ x.2.1 < ((x.1.2.2.1.length : Nat) : Int) then
              ((x.1.2.2.1)[(x.2.1).toNat]?).bind fun y13 =>
              let v14 := (x.1.2.2.1.set (x.2.1).toNat r1.1.1)
              some ((), ((x.1.1, (x.1.2.1, (v14, (x.1.2.2.2.1, (x.1.2.2.2.2.1, (x.1.2.2.2.2.2.1, (x.1.2.2.2.2.2.2.1, (x.1.2.2.2.2.2.2.2.1, (x.1.2.2.2.2.2.2.2.2.1, ()))))))))), ()))
            else none
abbrev C_spec_l8Set : Con := ⟨P_spec_l8Set, R_spec_l8Set, F_spec_l8Set, false⟩
abbrev G_spec_l8Set : Env := [(193, C_spec_WrapWord)]
theorem g_spec_l8Set : EnvOk Tryz.prog G_spec_l8Set := (env_cons s_spec_WrapWord env_nil)
theorem r_spec_l8Set (x) : runFn T G_spec_l8Set [] Tryz.f163 P_spec_l8Set R_spec_l8Set x = F_spec_l8Set x := by kernel_rfl
theorem s_spec_l8Set : CallsOk Tryz.prog 163 C_spec_l8Set :=
  fn_calls (L := []) hT g_spec_l8Set Tryz.f163 (by kernel_rfl) (by kernel_rfl) (by kernel_rfl) (plain_ok (by kernel_rfl)) r_spec_l8Set
/-! spec.l9Write -/
abbrev P_spec_l9Write : List PK := [.box [.own 2 YI, .dat YI, .own 2 YI, .dat .bool, .dat .bool, .dat .bool, .dat YI, .dat Y22, .own 2 YI] [.own 2 YI, .dat YI, .own 2 YI, .dat .bool, .dat .bool, .dat .bool, .dat YI, .dat Y22, .own 2 YI], .val YI, .val YI]
abbrev R_spec_l9Write : List VK := [.s (.dat YI)]
def F_spec_l9Write (x : denP P_spec_l9Write) : Option (denV R_spec_l9Write × denQ P_spec_l9Write) :=
  (F_spec_WrapWord (x.2.2.1, ())).bind fun r1 =>
  if (x.2.1 == (0 : Int)) then
    let v2 := ((x.1.2.2.2.2.2.2.2.2.1.length : Nat) : Int)
    if (ltI v2 (40 : Int)) then
      if (x.1.2.2.2.2.2.2.2.2.1.length + [r1.1.1].length) * 8 ≤ 140737488355328 then
        let v3 := (x.1.2.2.2.2.2.2.2.2.1 ++ [r1.1.1])
        some (((-1 : Int), ()), ((x.1.1, (x.1.2.1, (x.1.2.2.1, (x.1.2.2.2.1, (x.1.2.2.2.2.1, (x.1.2.2.2.2.2.1, (x.1.2.2.2.2.2.2.1, (x.1.2.2.2.2.2.2.2.1, (v3, ()))))))))), ()))
      else none
    else
      some (((-1 : Int), ()), (x.1, ()))
  else
    if (x.2.1 == (3 : Int)) then
      if 0 ≤ (9 : Int) ∧ (9 : Int) < ((x.1.2.2.1.length : Nat) : Int) then
        ((x.1.2.2.1)[((9 : Int)).toNat]?).bind fun y4 =>
        let v5 := (x.1.2.2.1.set ((9 : Int)).toNat r1.1.1)
        some (((-1 : Int), ()), ((x.1.1, (x.1.2.1, (v5, (x.1.2.2.2.1, (x.1.2.2.2.2.1, (x.1.2.2.2.2.2.1, (x.1.2.2.2.2.2.2.1, (x.1.2.2.2.2.2.2.2.1, (x.1.2.2.2.2.2.2.2.2.1, ()))))))))), ()))
      else none
    else
      if (x.2.1 == (4 : Int)) then
        (F_spec_l8Set (x.1, (6 : Int), r1.1.1, ())).bind fun r6 =>
        some (((-1 : Int), ()), (r6.2.1, ()))
      else
        if (x.2.1 == (5 : Int)) then
          some ((r1.1.1, ()), (x.1, ()))
        else
          some (((-1 : Int), ()), (x.1, ()))
abbrev C_spec_l9Write : Con := ⟨P_spec_l9Write, R_spec_l9Write, F_spec_l9Write, false⟩
abbrev G_spec_l9Write : Env := [(163, C_spec_l8Set), (193, C_spec_WrapWord)]
theorem g_spec_l9Write : EnvOk Tryz.prog G_spec_l9Write := (env_cons s_spec_l8Set (env_cons s_spec_WrapWord env_nil))
theorem r_spec_l9Write (x) : runFn T G_spec_l9Write [] Tryz.f191 P_spec_l9Write R_spec_l9Write x = F_spec_l9Write x := by kernel_rfl
theorem s_spec_l9Write : CallsOk Tryz.prog 191 C_spec_l9Write :=
  fn_calls (L := []) hT g_spec_l9Write Tryz.f191 (by kernel_rfl) (by kernel_rfl) (by kernel_rfl) (plain_ok (by kernel_rfl)) r_spec_l9Write
/-! spec.l10Memory -/
abbrev P_spec_l10Memory : List PK := [.box [.dat Y25, .own 2 YI, .dat YI, .own 2 YI, .dat YI, .own 2 YI, .dat .bool, .dat .bool, .dat .bool, .dat YI, .dat Y22, .own 2 YI, .dat YI] [.dat Y25, .own 2 YI, .dat YI, .own 2 YI, .dat YI, .own 2 YI, .dat .bool, .dat .bool, .dat .bool, .dat YI, .dat Y22, .own 2 YI, .dat YI], .val Y72]
abbrev R_spec_l10Memory : List VK := [.s (.dat .bool)]
def F_spec_l10Memory (x : denP P_spec_l10Memory) : Option (denV R_spec_l10Memory × denQ P_spec_l10Memory) :=
  if 0 ≤ x.2.1.2.2.1 ∧ x.2.1.2.2.1 < ((x.1.2.2.2.1.length : Nat) : Int) then
    ((x.1.2.2.2.1)[(x.2.1.2.2.1).toNat]?).bind fun y1 =>
    (F_spec_OffsetOf (x.2.1.2.2.2.1, ())).bind fun r2 =>
    (F_spec_AddWords (y1, r2.1.1, ())).bind fun r3 =>
    if (x.2.1.1 == (15 : Int)) then
      (F_spec_l10Place ((x.1.1, (x.1.2.1, (x.1.2.2.1, ((x.1.2.2.2.1, (x.1.2.2.2.2.1, (x.1.2.2.2.2.2.1, (x.1.2.2.2.2.2.2.1, (x.1.2.2.2.2.2.2.2.1, (x.1.2.2.2.2.2.2.2.2.1, (x.1.2.2.2.2.2.2.2.2.2.1, (x.1.2.2.2.2.2.2.2.2.2.2.1, (x.1.2.2.2.2.2.2.2.2.2.2.2.1, ()))))))))), (x.1.2.2.2.2.2.2.2.2.2.2.2.2.1, ()))))), r3.1.1, (2 : Int), ())).bind fun r4 =>
      if (r4.1.2.1 != (0 : Int)) then
        (F_spec_l10Fall (x.1, (4 : Int), r3.1.1, ())).bind fun r5 =>
        some ((false, ()), (r5.2.1, ()))
      else
        if (x.2.1.1 == (14 : Int)) = true then
          if (leI (1000 : Int) r4.1.1) then
            let v6 := (IntKind.i64.wrap (r4.1.1 - (1000 : Int)))
            (F_spec_l9Read ((x.1.2.2.2.1, (x.1.2.2.2.2.1, (x.1.2.2.2.2.2.1, (x.1.2.2.2.2.2.2.1, (x.1.2.2.2.2.2.2.2.1, (x.1.2.2.2.2.2.2.2.2.1, (x.1.2.2.2.2.2.2.2.2.2.1, (x.1.2.2.2.2.2.2.2.2.2.2.1, (x.1.2.2.2.2.2.2.2.2.2.2.2.1, ()))))))))), v6, ())).bind fun r7 =>
            (F_spec_l10Put ((x.1.1, (x.1.2.1, (x.1.2.2.1, (r7.2.1.1, (r7.2.1.2.1, (r7.2.1.2.2.1, (r7.2.1.2.2.2.1, (r7.2.1.2.2.2.2.1, (r7.2.1.2.2.2.2.2.1, (r7.2.1.2.2.2.2.2.2.1, (r7.2.1.2.2.2.2.2.2.2.1, (r7.2.1.2.2.2.2.2.2.2.2.1, (x.1.2.2.2.2.2.2.2.2.2.2.2.2.1, ()))))))))))))), x.2.1.2.1, r7.1.1, ())).bind fun r8 =>
            some ((true, ()), (r8.2.1, ()))
          else
            if (x.2.1.1 == (14 : Int)) then
              if 0 ≤ r4.1.1 ∧ r4.1.1 < ((x.1.2.1.length : Nat) : Int) then
                ((x.1.2.1)[(r4.1.1).toNat]?).bind fun y9 =>
                (F_spec_l10Put (x.1, x.2.1.2.1, y9, ())).bind fun r10 =>
                some ((true, ()), (r10.2.1, ()))
              else none
            else
              if (leI (1000 : Int) r4.1.1) then
                let v11 := (IntKind.i64.wrap (r4.1.1 - (1000 : Int)))
                if 0 ≤ x.2.1.2.1 ∧ x.2.1.2.1 < ((x.1.2.2.2.1.length : Nat) : Int) then
                  ((x.1.2.2.2.1)[(x.2.1.2.1).toNat]?).bind fun y12 =>
                  (F_spec_l9Write ((x.1.2.2.2.1, (x.1.2.2.2.2.1, (x.1.2.2.2.2.2.1, (x.1.2.2.2.2.2.2.1, (x.1.2.2.2.2.2.2.2.1, (x.1.2.2.2.2.2.2.2.2.1, (x.1.2.2.2.2.2.2.2.2.2.1, (x.1.2.2.2.2.2.2.2.2.2.2.1, (x.1.2.2.2.2.2.2.2.2.2.2.2.1, ()))))))))), v11, y12, ())).bind fun r13 =>
                  some ((true, ()), ((x.1.1, (x.1.2.1, (r13.1.1, (r13.2.1.1, (r13.2.1.2.1, (r13.2.1.2.2.1, (r13.2.1.2.2.2.1, (r13.2.1.2.2.2.2.1, (r13.2.1.2.2.2.2.2.1, (r13.2.1.2.2.2.2.2.2.1, (r13.2.1.2.2.2.2.2.2.2.1, (r13.2.1.2.2.2.2.2.2.2.2.1, (x.1.2.2.2.2.2.2.2.2.2.2.2.2.1, ()))))))))))))), ()))
                else none
              else
                if 0 ≤ x.2.1.2.1 ∧ x.2.1.2.1 < ((x.1.2.2.2.1.length : Nat) : Int) then
                  ((x.1.2.2.2.1)[(x.2.1.2.1).toNat]?).bind fun y14 =>
                  if 0 ≤ r4.1.1 ∧ r4.1.1 < ((x.1.2.1.length : Nat) : Int) then
                    ((x.1.2.1)[(r4.1.1).toNat]?).bind fun y15 =>
                    let v16 := (x.1.2.1.set (r4.1.1).toNat y14)
                    some ((true, ()), ((x.1.1, (v16, (x.1.2.2.1, (x.1.2.2.2.1, (x.1.2.2.2.2.1, (x.1.2.2.2.2.2.1, (x.1.2.2.2.2.2.2.1, (x.1.2.2.2.2.2.2.2.1, (x.1.2.2.2.2.2.2.2.2.1, (x.1.2.2.2.2.2.2.2.2.2.1, (x.1.2.2.2.2.2.2.2.2.2.2.1, (x.1.2.2.2.2.2.2.2.2.2.2.2.1, (x.1.2.2.2.2.2.2.2.2.2.2.2.2.1, ()))))))))))))), ()))
                  else none
                else none
        else
          if (x.2.1.1 == (14 : Int)) then
            if 0 ≤ r4.1.1 ∧ r4.1.1 < ((x.1.2.1.length : Nat) : Int) then
              ((x.1.2.1)[(r4.1.1).toNat]?).bind fun y17 =>
              (F_spec_l10Put (x.1, x.2.1.2.1, y17, ())).bind fun r18 =>
              some ((true, ()), (r18.2.1, ()))
            else none
          else
            if (leI (1000 : Int) r4.1.1) then
              let v19 := (IntKind.i64.wrap (r4.1.1 - (1000 : Int)))
              if 0 ≤ x.2.1.2.1 ∧ x.2.1.2.1 < ((x.1.2.2.2.1.length : Nat) : Int) then
                ((x.1.2.2.2.1)[(x.2.1.2.1).toNat]?).bind fun y20 =>
                (F_spec_l9Write ((x.1.2.2.2.1, (x.1.2.2.2.2.1, (x.1.2.2.2.2.2.1, (x.1.2.2.2.2.2.2.1, (x.1.2.2.2.2.2.2.2.1, (x.1.2.2.2.2.2.2.2.2.1, (x.1.2.2.2.2.2.2.2.2.2.1, (x.1.2.2.2.2.2.2.2.2.2.2.1, (x.1.2.2.2.2.2.2.2.2.2.2.2.1, ()))))))))), v19, y20, ())).bind fun r21 =>
                some ((true, ()), ((x.1.1, (x.1.2.1, (r21.1.1, (r21.2.1.1, (r21.2.1.2.1, (r21.2.1.2.2.1, (r21.2.1.2.2.2.1, (r21.2.1.2.2.2.2.1, (r21.2.1.2.2.2.2.2.1, (r21.2.1.2.2.2.2.2.2.1, (r21.2.1.2.2.2.2.2.2.2.1, (r21.2.1.2.2.2.2.2.2.2.2.1, (x.1.2.2.2.2.2.2.2.2.2.2.2.2.1, ()))))))))))))), ()))
              else none
            else
              if 0 ≤ x.2.1.2.1 ∧ x.2.1.2.1 < ((x.1.2.2.2.1.length : Nat) : Int) then
                ((x.1.2.2.2.1)[(x.2.1.2.1).toNat]?).bind fun y22 =>
                if 0 ≤ r4.1.1 ∧ r4.1.1 < ((x.1.2.1.length : Nat) : Int) then
                  ((x.1.2.1)[(r4.1.1).toNat]?).bind fun y23 =>
                  let v24 := (x.1.2.1.set (r4.1.1).toNat y22)
                  some ((true, ()), ((x.1.1, (v24, (x.1.2.2.1, (x.1.2.2.2.1, (x.1.2.2.2.2.1, (x.1.2.2.2.2.2.1, (x.1.2.2.2.2.2.2.1, (x.1.2.2.2.2.2.2.2.1, (x.1.2.2.2.2.2.2.2.2.1, (x.1.2.2.2.2.2.2.2.2.2.1, (x.1.2.2.2.2.2.2.2.2.2.2.1, (x.1.2.2.2.2.2.2.2.2.2.2.2.1, (x.1.2.2.2.2.2.2.2.2.2.2.2.2.1, ()))))))))))))), ()))
                else none
              else none
    else
      (F_spec_l10Place ((x.1.1, (x.1.2.1, (x.1.2.2.1, ((x.1.2.2.2.1, (x.1.2.2.2.2.1, (x.1.2.2.2.2.2.1, (x.1.2.2.2.2.2.2.1, (x.1.2.2.2.2.2.2.2.1, (x.1.2.2.2.2.2.2.2.2.1, (x.1.2.2.2.2.2.2.2.2.2.1, (x.1.2.2.2.2.2.2.2.2.2.2.1, (x.1.2.2.2.2.2.2.2.2.2.2.2.1, ()))))))))), (x.1.2.2.2.2.2.2.2.2.2.2.2.2.1, ()))))), r3.1.1, (1 : Int), ())).bind fun r25 =>
      if (r25.1.2.1 != (0 : Int)) then
        (F_spec_l10Fall (x.1, (3 : Int), r3.1.1, ())).bind fun r26 =>
        some ((false, ()), (r26.2.1, ()))
      else
        if (x.2.1.1 == (14 : Int)) = true then
          if (leI (1000 : Int) r25.1.1) then
            let v27 := (IntKind.i64.wrap (r25.1.1 - (1000 : Int)))
            (F_spec_l9Read ((x.1.2.2.2.1, (x.1.2.2.2.2.1, (x.1.2.2.2.2.2.1, (x.1.2.2.2.2.2.2.1, (x.1.2.2.2.2.2.2.2.1, (x.1.2.2.2.2.2.2.2.2.1, (x.1.2.2.2.2.2.2.2.2.2.1, (x.1.2.2.2.2.2.2.2.2.2.2.1, (x.1.2.2.2.2.2.2.2.2.2.2.2.1, ()))))))))), v27, ())).bind fun r28 =>
            (F_spec_l10Put ((x.1.1, (x.1.2.1, (x.1.2.2.1, (r28.2.1.1, (r28.2.1.2.1, (r28.2.1.2.2.1, (r28.2.1.2.2.2.1, (r28.2.1.2.2.2.2.1, (r28.2.1.2.2.2.2.2.1, (r28.2.1.2.2.2.2.2.2.1, (r28.2.1.2.2.2.2.2.2.2.1, (r28.2.1.2.2.2.2.2.2.2.2.1, (x.1.2.2.2.2.2.2.2.2.2.2.2.2.1, ()))))))))))))), x.2.1.2.1, r28.1.1, ())).bind fun r29 =>
            some ((true, ()), (r29.2.1, ()))
          else
            if (x.2.1.1 == (14 : Int)) then
              if 0 ≤ r25.1.1 ∧ r25.1.1 < ((x.1.2.1.length : Nat) : Int) then
                ((x.1.2.1)[(r25.1.1).toNat]?).bind fun y30 =>
                (F_spec_l10Put (x.1, x.2.1.2.1, y30, ())).bind fun r31 =>
                some ((true, ()), (r31.2.1, ()))
              else none
            else
              if (leI (1000 : Int) r25.1.1) then
                let v32 := (IntKind.i64.wrap (r25.1.1 - (1000 : Int)))
                if 0 ≤ x.2.1.2.1 ∧ x.2.1.2.1 < ((x.1.2.2.2.1.length : Nat) : Int) then
                  ((x.1.2.2.2.1)[(x.2.1.2.1).toNat]?).bind fun y33 =>
                  (F_spec_l9Write ((x.1.2.2.2.1, (x.1.2.2.2.2.1, (x.1.2.2.2.2.2.1, (x.1.2.2.2.2.2.2.1, (x.1.2.2.2.2.2.2.2.1, (x.1.2.2.2.2.2.2.2.2.1, (x.1.2.2.2.2.2.2.2.2.2.1, (x.1.2.2.2.2.2.2.2.2.2.2.1, (x.1.2.2.2.2.2.2.2.2.2.2.2.1, ()))))))))), v32, y33, ())).bind fun r34 =>
                  some ((true, ()), ((x.1.1, (x.1.2.1, (r34.1.1, (r34.2.1.1, (r34.2.1.2.1, (r34.2.1.2.2.1, (r34.2.1.2.2.2.1, (r34.2.1.2.2.2.2.1, (r34.2.1.2.2.2.2.2.1, (r34.2.1.2.2.2.2.2.2.1, (r34.2.1.2.2.2.2.2.2.2.1, (r34.2.1.2.2.2.2.2.2.2.2.1, (x.1.2.2.2.2.2.2.2.2.2.2.2.2.1, ()))))))))))))), ()))
                else none
              else
                if 0 ≤ x.2.1.2.1 ∧ x.2.1.2.1 < ((x.1.2.2.2.1.length : Nat) : Int) then
                  ((x.1.2.2.2.1)[(x.2.1.2.1).toNat]?).bind fun y35 =>
                  if 0 ≤ r25.1.1 ∧ r25.1.1 < ((x.1.2.1.length : Nat) : Int) then
                    ((x.1.2.1)[(r25.1.1).toNat]?).bind fun y36 =>
                    let v37 := (x.1.2.1.set (r25.1.1).toNat y35)
                    some ((true, ()), ((x.1.1, (v37, (x.1.2.2.1, (x.1.2.2.2.1, (x.1.2.2.2.2.1, (x.1.2.2.2.2.2.1, (x.1.2.2.2.2.2.2.1, (x.1.2.2.2.2.2.2.2.1, (x.1.2.2.2.2.2.2.2.2.1, (x.1.2.2.2.2.2.2.2.2.2.1, (x.1.2.2.2.2.2.2.2.2.2.2.1, (x.1.2.2.2.2.2.2.2.2.2.2.2.1, (x.1.2.2.2.2.2.2.2.2.2.2.2.2.1, ()))))))))))))), ()))
                  else none
                else none
        else
          if (x.2.1.1 == (14 : Int)) then
            if 0 ≤ r25.1.1 ∧ r25.1.1 < ((x.1.2.1.length : Nat) : Int) then
              ((x.1.2.1)[(r25.1.1).toNat]?).bind fun y38 =>
              (F_spec_l10Put (x.1, x.2.1.2.1, y38, ())).bind fun r39 =>
              some ((true, ()), (r39.2.1, ()))
            else none
          else
            if (leI (1000 : Int) r25.1.1) then
              let v40 := (IntKind.i64.wrap (r25.1.1 - (1000 : Int)))
              if 0 ≤ x.2.1.2.1 ∧ x.2.1.2.1 < ((x.1.2.2.2.1.length : Nat) : Int) then
                ((x.1.2.2.2.1)[(x.2.1.2.1).toNat]?).bind fun y41 =>
                (F_spec_l9Write ((x.1.2.2.2.1, (x.1.2.2.2.2.1, (x.1.2.2.2.2.2.1, (x.1.2.2.2.2.2.2.1, (x.1.2.2.2.2.2.2.2.1, (x.1.2.2.2.2.2.2.2.2.1, (x.1.2.2.2.2.2.2.2.2.2.1, (x.1.2.2.2.2.2.2.2.2.2.2.1, (x.1.2.2.2.2.2.2.2.2.2.2.2.1, ()))))))))), v40, y41, ())).bind fun r42 =>
                some ((true, ()), ((x.1.1, (x.1.2.1, (r42.1.1, (r42.2.1.1, (r42.2.1.2.1, (r42.2.1.2.2.1, (r42.2.1.2.2.2.1, (r42.2.1.2.2.2.2.1, (r42.2.1.2.2.2.2.2.1, (r42.2.1.2.2.2.2.2.2.1, (r42.2.1.2.2.2.2.2.2.2.1, (r42.2.1.2.2.2.2.2.2.2.2.1, (x.1.2.2.2.2.2.2.2.2.2.2.2.2.1, ()))))))))))))), ()))
              else none
            else
              if 0 ≤ x.2.1.2.1 ∧ x.2.1.2.1 < ((x.1.2.2.2.1.length : Nat) : Int) then
                ((x.1.2.2.2.1)[(x.2.1.2.1).toNat]?).bind fun y43 =>
                if 0 ≤ r25.1.1 ∧ r25.1.1 < ((x.1.2.1.length : Nat) : Int) then
                  ((x.1.2.1)[(r25.1.1).toNat]?).bind fun y44 =>
                  let v45 := (x.1.2.1.set (r25.1.1).toNat y43)
                  some ((true, ()), ((x.1.1, (v45, (x.1.2.2.1, (x.1.2.2.2.1, (x.1.2.2.2.2.1, (x.1.2.2.2.2.2.1, (x.1.2.2.2.2.2.2.1, (x.1.2.2.2.2.2.2.2.1, (x.1.2.2.2.2.2.2.2.2.1, (x.1.2.2.2.2.2.2.2.2.2.1, (x.1.2.2.2.2.2.2.2.2.2.2.1, (x.1.2.2.2.2.2.2.2.2.2.2.2.1, (x.1.2.2.2.2.2.2.2.2.2.2.2.2.1, ()))))))))))))), ()))
                else none
              else none
  else none
abbrev C_spec_l10Memory : Con := ⟨P_spec_l10Memory, R_spec_l10Memory, F_spec_l10Memory, false⟩
abbrev G_spec_l10Memory : Env := [(81, C_spec_l10Place), (108, C_spec_l10Fall), (157, C_spec_AddWords), (158, C_spec_OffsetOf), (159, C_spec_l10Put), (190, C_spec_l9Read), (191, C_spec_l9Write)]
theorem g_spec_l10Memory : EnvOk Tryz.prog G_spec_l10Memory := (env_cons s_spec_l10Place (env_cons s_spec_l10Fall (env_cons s_spec_AddWords (env_cons s_spec_OffsetOf (env_cons s_spec_l10Put (env_cons s_spec_l9Read (env_cons s_spec_l9Write env_nil)))))))
theorem r_spec_l10Memory (x) : runFn T G_spec_l10Memory [] Tryz.f160 P_spec_l10Memory R_spec_l10Memory x = F_spec_l10Memory x := by kernel_rfl
theorem s_spec_l10Memory : CallsOk Tryz.prog 160 C_spec_l10Memory :=
  fn_calls (L := []) hT g_spec_l10Memory Tryz.f160 (by kernel_rfl) (by kernel_rfl) (by kernel_rfl) (plain_ok (by kernel_rfl)) r_spec_l10Memory
/-! spec.SignedOf -/
abbrev P_spec_SignedOf : List PK := [.val YI]
abbrev R_spec_SignedOf : List VK := [.s (.dat YI)]
def F_spec_SignedOf (x : denP P_spec_SignedOf) : Option (denV R_spec_SignedOf × denQ P_spec_SignedOf) :=
  let v1 := (IntKind.u32.wrap x.1)
  let v2 := (IntKind.i32.wrap v1)
  let v3 := (IntKind.i64.wrap v2)
  some ((v3, ()), ())
abbrev C_spec_SignedOf : Con := ⟨P_spec_SignedOf, R_spec_SignedOf, F_spec_SignedOf, false⟩
abbrev G_spec_SignedOf : Env := []
theorem g_spec_SignedOf : EnvOk Tryz.prog G_spec_SignedOf := env_nil
theorem r_spec_SignedOf (x) : runFn T G_spec_SignedOf [] Tryz.f192 P_spec_SignedOf R_spec_SignedOf x = F_spec_SignedOf x := by kernel_rfl
theorem s_spec_SignedOf : CallsOk Tryz.prog 192 C_spec_SignedOf :=
  fn_calls (L := []) hT g_spec_SignedOf Tryz.f192 (by kernel_rfl) (by kernel_rfl) (by kernel_rfl) (plain_ok (by kernel_rfl)) r_spec_SignedOf
/-! spec.l10Taken -/
abbrev P_spec_l10Taken : List PK := [.ptr Y23, .val Y72]
abbrev R_spec_l10Taken : List VK := [.s (.dat .bool)]
def F_spec_l10Taken (x : denP P_spec_l10Taken) : Option (denV R_spec_l10Taken × denQ P_spec_l10Taken) :=
  if 0 ≤ x.2.1.2.1 then
    ((x.1.1)[(x.2.1.2.1).toNat]?).bind fun y1 =>
    if 0 ≤ x.2.1.2.2.1 then
      ((x.1.1)[(x.2.1.2.2.1).toNat]?).bind fun y2 =>
      if (x.2.1.1 == (16 : Int)) then
        some (((y1 == y2), ()), ())
      else
        if (x.2.1.1 == (17 : Int)) then
          some (((y1 != y2), ()), ())
        else
          (F_spec_SignedOf (y1, ())).bind fun r3 =>
          (F_spec_SignedOf (y2, ())).bind fun r4 =>
          some (((ltI r3.1.1 r4.1.1), ()), ())
    else none
  else none
abbrev C_spec_l10Taken : Con := ⟨P_spec_l10Taken, R_spec_l10Taken, F_spec_l10Taken, false⟩
abbrev G_spec_l10Taken : Env := [(192, C_spec_SignedOf)]
theorem g_spec_l10Taken : EnvOk Tryz.prog G_spec_l10Taken := (env_cons s_spec_SignedOf env_nil)
theorem r_spec_l10Taken (x) : runFn T G_spec_l10Taken [] Tryz.f161 P_spec_l10Taken R_spec_l10Taken x = F_spec_l10Taken x := by kernel_rfl
theorem s_spec_l10Taken : CallsOk Tryz.prog 161 C_spec_l10Taken :=
  fn_calls (L := []) hT g_spec_l10Taken Tryz.f161 (by kernel_rfl) (by kernel_rfl) (by kernel_rfl) (plain_ok (by kernel_rfl)) r_spec_l10Taken
/-! spec.l8Get -/
abbrev P_spec_l8Get : List PK := [.ptr Y23, .val YI]
abbrev R_spec_l8Get : List VK := [.s (.dat YI)]
def F_spec_l8Get (x : denP P_spec_l8Get) : Option (denV R_spec_l8Get × denQ P_spec_l8Get) :=
  if (x.2.1 == (6 : Int)) then
    (F_spec_l8Pending (x.1, ())).bind fun r1 =>
    some ((r1.1.1, ()), ())
  else
    if (x.2.1 == (8 : Int)) then
      some ((x.1.2.2.2.2.2.2.1, ()), ())
    else
      if 0 ≤ x.2.1 then
        ((x.1.2.2.1)[(x.2.1).toNat]?).bind fun y2 =>
        some ((y2, ()), ())
      else none
abbrev C_spec_l8Get : Con := ⟨P_spec_l8Get, R_spec_l8Get, F_spec_l8Get, false⟩
abbrev G_spec_l8Get : Env := [(109, C_spec_l8Pending)]
theorem g_spec_l8Get : EnvOk Tryz.prog G_spec_l8Get := (env_cons s_spec_l8Pending env_nil)
theorem r_spec_l8Get (x) : runFn T G_spec_l8Get [] Tryz.f162 P_spec_l8Get R_spec_l8Get x = F_spec_l8Get x := by kernel_rfl
theorem s_spec_l8Get : CallsOk Tryz.prog 162 C_spec_l8Get :=
  fn_calls (L := []) hT g_spec_l8Get Tryz.f162 (by kernel_rfl) (by kernel_rfl) (by kernel_rfl) (plain_ok (by kernel_rfl)) r_spec_l8Get
/-! spec.l8Back -/
abbrev P_spec_l8Back : List PK := [.box [.own 2 YI, .dat YI, .own 2 YI, .dat .bool, .dat .bool, .dat .bool, .dat YI, .dat Y22, .own 2 YI] [.own 2 YI, .dat YI, .own 2 YI, .dat .bool, .dat .bool, .dat .bool, .dat YI, .dat Y22, .own 2 YI]]
abbrev R_spec_l8Back : List VK := []
def F_spec_l8Back (x : denP P_spec_l8Back) : Option (denV R_spec_l8Back × denQ P_spec_l8Back) :=
  if 0 ≤ (2 : Int) ∧ (2 : Int) < ((x.1.2.2.1.length : Nat) : Int) then
    ((x.1.2.2.1)[((2 : Int)).toNat]?).bind fun y1 =>
    if 0 ≤ (0 : Int) ∧ (0 : Int) < ((x.1.2.2.1.length : Nat) : Int) then
      ((x.1.2.2.1)[((0 : Int)).toNat]?).bind fun y2 =>
      let v3 := (IntKind.i64.wrap ((y2).tdiv (2 : Int)))
      let v4 := (IntKind.i64.wrap ((2 : Int) + v3))
      if 0 ≤ (0 : Int) ∧ (0 : Int) < ((x.1.2.2.1.length : Nat) : Int) then
        ((x.1.2.2.1)[((0 : Int)).toNat]?).bind fun y5 =>
        let v6 := (x.1.2.2.1.set ((0 : Int)).toNat v4)
        some ((), ((x.1.1, (y1, (v6, (x.1.2.2.2.1, (x.1.2.2.2.2.1, (x.1.2.2.2.2.2.1, (x.1.2.2.2.2.2.2.1, (x.1.2.2.2.2.2.2.2.1, (x.1.2.2.2.2.2.2.2.2.1, ()))))))))), ()))
      else none
    else none
  else none
abbrev C_spec_l8Back : Con := ⟨P_spec_l8Back, R_spec_l8Back, F_spec_l8Back, false⟩
abbrev G_spec_l8Back : Env := []
theorem g_spec_l8Back : EnvOk Tryz.prog G_spec_l8Back := env_nil
theorem r_spec_l8Back (x) : runFn T G_spec_l8Back [] Tryz.f164 P_spec_l8Back R_spec_l8Back x = F_spec_l8Back x := by kernel_rfl
theorem s_spec_l8Back : CallsOk Tryz.prog 164 C_spec_l8Back :=
  fn_calls (L := []) hT g_spec_l8Back Tryz.f164 (by kernel_rfl) (by kernel_rfl) (by kernel_rfl) (plain_ok (by kernel_rfl)) r_spec_l8Back
/-! spec.MulWords -/
abbrev P_spec_MulWords : List PK := [.val YI, .val YI]
abbrev R_spec_MulWords : List VK := [.s (.dat YI)]
def F_spec_MulWords (x : denP P_spec_MulWords) : Option (denV R_spec_MulWords × denQ P_spec_MulWords) :=
  let v1 := (IntKind.u32.wrap x.1)
  let v2 := (IntKind.u32.wrap x.2.1)
  let v3 := (IntKind.u32.wrap (v1 * v2))
  let v4 := (IntKind.i64.wrap v3)
  some ((v4, ()), ())
abbrev C_spec_MulWords : Con := ⟨P_spec_MulWords, R_spec_MulWords, F_spec_MulWords, false⟩
abbrev G_spec_MulWords : Env := []
theorem g_spec_MulWords : EnvOk Tryz.prog G_spec_MulWords := env_nil
theorem r_spec_MulWords (x) : runFn T G_spec_MulWords [] Tryz.f194 P_spec_MulWords R_spec_MulWords x = F_spec_MulWords x := by kernel_rfl
theorem s_spec_MulWords : CallsOk Tryz.prog 194 C_spec_MulWords :=
  fn_calls (L := []) hT g_spec_MulWords Tryz.f194 (by kernel_rfl) (by kernel_rfl) (by kernel_rfl) (plain_ok (by kernel_rfl)) r_spec_MulWords
/-! spec.DivWords -/
abbrev P_spec_DivWords : List PK := [.val YI, .val YI]
abbrev R_spec_DivWords : List VK := [.s (.dat YI)]
def F_spec_DivWords (x : denP P_spec_DivWords) : Option (denV R_spec_DivWords × denQ P_spec_DivWords) :=
  (F_spec_WrapWord (x.2.1, ())).bind fun r1 =>
  if (r1.1.1 == (0 : Int)) then
    some (((4294967295 : Int), ()), ())
  else
    (F_spec_SignedOf (x.1, ())).bind fun r2 =>
    (F_spec_SignedOf (x.2.1, ())).bind fun r3 =>
    if r3.1.1 = 0 then none else
    let v4 := (IntKind.i64.wrap ((r2.1.1).tdiv r3.1.1))
    (F_spec_WrapWord (v4, ())).bind fun r5 =>
    some ((r5.1.1, ()), ())
abbrev C_spec_DivWords : Con := ⟨P_spec_DivWords, R_spec_DivWords, F_spec_DivWords, false⟩
abbrev G_spec_DivWords : Env := [(192, C_spec_SignedOf), (193, C_spec_WrapWord)]
theorem g_spec_DivWords : EnvOk Tryz.prog G_spec_DivWords := (env_cons s_spec_SignedOf (env_cons s_spec_WrapWord env_nil))
theorem r_spec_DivWords (x) : runFn T G_spec_DivWords [] Tryz.f195 P_spec_DivWords R_spec_DivWords x = F_spec_DivWords x := by kernel_rfl
theorem s_spec_DivWords : CallsOk Tryz.prog 195 C_spec_DivWords :=
  fn_calls (L := []) hT g_spec_DivWords Tryz.f195 (by kernel_rfl) (by kernel_rfl) (by kernel_rfl) (plain_ok (by kernel_rfl)) r_spec_DivWords
/-! spec.RemWords -/
abbrev P_spec_RemWords : List PK := [.val YI, .val YI]
abbrev R_spec_RemWords : List VK := [.s (.dat YI)]
def F_spec_RemWords (x : denP P_spec_RemWords) : Option (denV R_spec_RemWords × denQ P_spec_RemWords) :=
  (F_spec_WrapWord (x.2.1, ())).bind fun r1 =>
  if (r1.1.1 == (0 : Int)) then
    (F_spec_WrapWord (x.1, ())).bind fun r2 =>
    some ((r2.1.1, ()), ())
  else
    (F_spec_SignedOf (x.1, ())).bind fun r3 =>
    (F_spec_SignedOf (x.2.1, ())).bind fun r4 =>
    if r4.1.1 = 0 then none else
    let v5 := ((r3.1.1).tmod r4.1.1)
    (F_spec_WrapWord (v5, ())).bind fun r6 =>
    some ((r6.1.1, ()), ())
abbrev C_spec_RemWords : Con := ⟨P_spec_RemWords, R_spec_RemWords, F_spec_RemWords, false⟩
abbrev G_spec_RemWords : Env := [(192, C_spec_SignedOf), (193, C_spec_WrapWord)]
theorem g_spec_RemWords : EnvOk Tryz.prog G_spec_RemWords := (env_cons s_spec_SignedOf (env_cons s_spec_WrapWord env_nil))
theorem r_spec_RemWords (x) : runFn T G_spec_RemWords [] Tryz.f196 P_spec_RemWords R_spec_RemWords x = F_spec_RemWords x := by kernel_rfl
theorem s_spec_RemWords : CallsOk Tryz.prog 196 C_spec_RemWords :=
  fn_calls (L := []) hT g_spec_RemWords Tryz.f196 (by kernel_rfl) (by kernel_rfl) (by kernel_rfl) (plain_ok (by kernel_rfl)) r_spec_RemWords
/-! spec.BitWords -/
abbrev P_spec_BitWords : List PK := [.val YI, .val YI, .val YI]
abbrev R_spec_BitWords : List VK := [.s (.dat Y67)]
def F_spec_BitWords (x : denP P_spec_BitWords) : Option (denV R_spec_BitWords × denQ P_spec_BitWords) :=
  if (x.1 == (1 : Int)) then
    let v1 := (IntKind.u32.wrap x.2.1)
    let v2 := (IntKind.u32.wrap x.2.2.1)
    let v3 := (iand .u32 v1 v2)
    let v4 := (IntKind.i64.wrap v3)
    some ((((0 : Int), (v4, ())), ()), ())
  else
    if (x.1 == (2 : Int)) then
      let v5 := (IntKind.u32.wrap x.2.1)
      let v6 := (IntKind.u32.wrap x.2.2.1)
      let v7 := (ior .u32 v5 v6)
      let v8 := (IntKind.i64.wrap v7)
      some ((((0 : Int), (v8, ())), ()), ())
    else
      if (x.1 == (3 : Int)) then
        let v9 := (IntKind.u32.wrap x.2.1)
        let v10 := (IntKind.u32.wrap x.2.2.1)
        let v11 := (ixor .u32 v9 v10)
        let v12 := (IntKind.i64.wrap v11)
        some ((((0 : Int), (v12, ())), ()), ())
      else
        some ((((3 : Int), ((0 : Int), ())), ()), ())
abbrev C_spec_BitWords : Con := ⟨P_spec_BitWords, R_spec_BitWords, F_spec_BitWords, false⟩
abbrev G_spec_BitWords : Env := []
theorem g_spec_BitWords : EnvOk Tryz.prog G_spec_BitWords := env_nil
theorem r_spec_BitWords (x) : runFn T G_spec_BitWords [] Tryz.f197 P_spec_BitWords R_spec_BitWords x = F_spec_BitWords x := by kernel_rfl
theorem s_spec_BitWords : CallsOk Tryz.prog 197 C_spec_BitWords :=
  fn_calls (L := []) hT g_spec_BitWords Tryz.f197 (by kernel_rfl) (by kernel_rfl) (by kernel_rfl) (plain_ok (by kernel_rfl)) r_spec_BitWords
/-! spec.ShiftWord -/
abbrev P_spec_ShiftWord : List PK := [.val YI, .val YI, .val .bool]
abbrev R_spec_ShiftWord : List VK := [.s (.dat YI)]
def F_spec_ShiftWord (x : denP P_spec_ShiftWord) : Option (denV R_spec_ShiftWord × denQ P_spec_ShiftWord) :=
  let v1 := (IntKind.u32.wrap x.2.1)
  let v2 := ((v1).tmod (32 : Int))
  let v3 := (IntKind.u64.wrap v2)
  if x.2.2.1 then
    let v4 := (IntKind.u32.wrap x.1)
    if v3 < 0 then none else
    let v5 := (IntKind.u32.wrap (v4 * 2 ^ (min (v3).toNat 32)))
    let v6 := (IntKind.i64.wrap v5)
    some ((v6, ()), ())
  else
    let v7 := (IntKind.u32.wrap x.1)
    if v3 < 0 then none else
    let v8 := ((v7).fdiv (2 ^ (min (v3).toNat 32)))
    let v9 := (IntKind.i64.wrap v8)
    some ((v9, ()), ())
abbrev C_spec_ShiftWord : Con := ⟨P_spec_ShiftWord, R_spec_ShiftWord, F_spec_ShiftWord, false⟩
abbrev G_spec_ShiftWord : Env := []
theorem g_spec_ShiftWord : EnvOk Tryz.prog G_spec_ShiftWord := env_nil
theorem r_spec_ShiftWord (x) : runFn T G_spec_ShiftWord [] Tryz.f198 P_spec_ShiftWord R_spec_ShiftWord x = F_spec_ShiftWord x := by kernel_rfl
theorem s_spec_ShiftWord : CallsOk Tryz.prog 198 C_spec_ShiftWord :=
  fn_calls (L := []) hT g_spec_ShiftWord Tryz.f198 (by kernel_rfl) (by kernel_rfl) (by kernel_rfl) (plain_ok (by kernel_rfl)) r_spec_ShiftWord
/-! spec.l2Alu -/
abbrev P_spec_l2Alu : List PK := [.val YI, .val YI, .val YI]
abbrev R_spec_l2Alu : List VK := [.s (.dat YI)]
def F_spec_l2Alu (x : denP P_spec_l2Alu) : Option (denV R_spec_l2Alu × denQ P_spec_l2Alu) :=
  if (x.1 == (1 : Int)) then
    (F_spec_AddWords (x.2.1, x.2.2.1, ())).bind fun r1 =>
    some ((r1.1.1, ()), ())
  else
    if (x.1 == (2 : Int)) then
      let v2 := (IntKind.u32.wrap x.2.1)
      let v3 := (IntKind.u32.wrap x.2.2.1)
      let v4 := (IntKind.u32.wrap (v2 - v3))
      let v5 := (IntKind.i64.wrap v4)
      some ((v5, ()), ())
    else
      if (x.1 == (3 : Int)) then
        (F_spec_MulWords (x.2.1, x.2.2.1, ())).bind fun r6 =>
        some ((r6.1.1, ()), ())
      else
        if (x.1 == (4 : Int)) then
          (F_spec_DivWords (x.2.1, x.2.2.1, ())).bind fun r7 =>
          some ((r7.1.1, ()), ())
        else
          if (x.1 == (5 : Int)) then
            (F_spec_RemWords (x.2.1, x.2.2.1, ())).bind fun r8 =>
            some ((r8.1.1, ()), ())
          else
            if (x.1 == (6 : Int)) then
              let v9 := (IntKind.i64.wrap (x.1 - (6 : Int)))
              let v10 := (IntKind.i64.wrap (v9 + (1 : Int)))
              (F_spec_BitWords (v10, x.2.1, x.2.2.1, ())).bind fun r11 =>
              some ((r11.1.1.2.1, ()), ())
            else
              if (x.1 == (7 : Int)) then
                let v12 := (IntKind.i64.wrap (x.1 - (6 : Int)))
                let v13 := (IntKind.i64.wrap (v12 + (1 : Int)))
                (F_spec_BitWords (v13, x.2.1, x.2.2.1, ())).bind fun r14 =>
                some ((r14.1.1.2.1, ()), ())
              else
                if (x.1 == (8 : Int)) then
                  let v15 := (IntKind.i64.wrap (x.1 - (6 : Int)))
                  let v16 := (IntKind.i64.wrap (v15 + (1 : Int)))
                  (F_spec_BitWords (v16, x.2.1, x.2.2.1, ())).bind fun r17 =>
                  some ((r17.1.1.2.1, ()), ())
                else
                  if (x.1 == (9 : Int)) then
                    (F_spec_ShiftWord (x.2.1, x.2.2.1, true, ())).bind fun r18 =>
                    some ((r18.1.1, ()), ())
                  else
                    if (x.1 == (10 : Int)) then
                      (F_spec_ShiftWord (x.2.1, x.2.2.1, false, ())).bind fun r19 =>
                      some ((r19.1.1, ()), ())
                    else
                      (F_spec_SignedOf (x.2.1, ())).bind fun r20 =>
                      (F_spec_SignedOf (x.2.2.1, ())).bind fun r21 =>
                      if (ltI r20.1.1 r21.1.1) then
                        some (((1 : Int), ()), ())
                      else
                        some (((0 : Int), ()), ())
abbrev C_spec_l2Alu : Con := ⟨P_spec_l2Alu, R_spec_l2Alu, F_spec_l2Alu, false⟩
abbrev G_spec_l2Alu : Env := [(157, C_spec_AddWords), (192, C_spec_SignedOf), (194, C_spec_MulWords), (195, C_spec_DivWords), (196, C_spec_RemWords), (197, C_spec_BitWords), (198, C_spec_ShiftWord)]
theorem g_spec_l2Alu : EnvOk Tryz.prog G_spec_l2Alu := (env_cons s_spec_AddWords (env_cons s_spec_SignedOf (env_cons s_spec_MulWords (env_cons s_spec_DivWords (env_cons s_spec_RemWords (env_cons s_spec_BitWords (env_cons s_spec_ShiftWord env_nil)))))))
theorem r_spec_l2Alu (x) : runFn T G_spec_l2Alu [] Tryz.f165 P_spec_l2Alu R_spec_l2Alu x = F_spec_l2Alu x := by kernel_rfl
theorem s_spec_l2Alu : CallsOk Tryz.prog 165 C_spec_l2Alu :=
  fn_calls (L := []) hT g_spec_l2Alu Tryz.f165 (by kernel_rfl) (by kernel_rfl) (by kernel_rfl) (plain_ok (by kernel_rfl)) r_spec_l2Alu
/-! spec.l10Do -/
abbrev P_spec_l10Do : List PK := [.box [.dat Y25, .own 2 YI, .dat YI, .own 2 YI, .dat YI, .own 2 YI, .dat .bool, .dat .bool, .dat .bool, .dat YI, .dat Y22, .own 2 YI, .dat YI] [.dat Y25, .own 2 YI, .dat YI, .own 2 YI, .dat YI, .own 2 YI, .dat .bool, .dat .bool, .dat .bool, .dat YI, .dat Y22, .own 2 YI, .dat YI], .val Y72]
abbrev R_spec_l10Do : List VK := [.s (.dat .bool)]
def F_spec_l10Do (x : denP P_spec_l10Do) : Option (denV R_spec_l10Do × denQ P_spec_l10Do) :=
  (F_spec_AddWords (x.1.2.2.2.2.1, (1 : Int), ())).bind fun r1 =>
  (F_spec_OffsetOf (x.2.1.2.2.2.1, ())).bind fun r2 =>
  (F_spec_AddWords (x.1.2.2.2.2.1, r2.1.1, ())).bind fun r3 =>
  if (x.2.1.1 == (12 : Int)) then
    if 0 ≤ x.2.1.2.2.1 ∧ x.2.1.2.2.1 < ((x.1.2.2.2.1.length : Nat) : Int) then
      ((x.1.2.2.2.1)[(x.2.1.2.2.1).toNat]?).bind fun y4 =>
      (F_spec_OffsetOf (x.2.1.2.2.2.1, ())).bind fun r5 =>
      (F_spec_AddWords (y4, r5.1.1, ())).bind fun r6 =>
      (F_spec_l10Put (x.1, x.2.1.2.1, r6.1.1, ())).bind fun r7 =>
      some ((true, ()), ((r7.2.1.1, (r7.2.1.2.1, (r7.2.1.2.2.1, (r7.2.1.2.2.2.1, (r1.1.1, (r7.2.1.2.2.2.2.2.1, (r7.2.1.2.2.2.2.2.2.1, (r7.2.1.2.2.2.2.2.2.2.1, (r7.2.1.2.2.2.2.2.2.2.2.1, (r7.2.1.2.2.2.2.2.2.2.2.2.1, (r7.2.1.2.2.2.2.2.2.2.2.2.2.1, (r7.2.1.2.2.2.2.2.2.2.2.2.2.2.1, (r7.2.1.2.2.2.2.2.2.2.2.2.2.2.2.1, ()))))))))))))), ()))
    else none
  else
    if (x.2.1.1 == (13 : Int)) then
      let v8 := (IntKind.i64.wrap (x.2.1.2.2.2.1 * (65536 : Int)))
      (F_spec_l10Put (x.1, x.2.1.2.1, v8, ())).bind fun r9 =>
      some ((true, ()), ((r9.2.1.1, (r9.2.1.2.1, (r9.2.1.2.2.1, (r9.2.1.2.2.2.1, (r1.1.1, (r9.2.1.2.2.2.2.2.1, (r9.2.1.2.2.2.2.2.2.1, (r9.2.1.2.2.2.2.2.2.2.1, (r9.2.1.2.2.2.2.2.2.2.2.1, (r9.2.1.2.2.2.2.2.2.2.2.2.1, (r9.2.1.2.2.2.2.2.2.2.2.2.2.1, (r9.2.1.2.2.2.2.2.2.2.2.2.2.2.1, (r9.2.1.2.2.2.2.2.2.2.2.2.2.2.2.1, ()))))))))))))), ()))
    else
      if (x.2.1.1 == (14 : Int)) then
        (F_spec_l10Memory (x.1, x.2.1, ())).bind fun r10 =>
        if (!r10.1.1) then
          some ((false, ()), (r10.2.1, ()))
        else
          some ((true, ()), ((r10.2.1.1, (r10.2.1.2.1, (r10.2.1.2.2.1, (r10.2.1.2.2.2.1, (r1.1.1, (r10.2.1.2.2.2.2.2.1, (r10.2.1.2.2.2.2.2.2.1, (r10.2.1.2.2.2.2.2.2.2.1, (r10.2.1.2.2.2.2.2.2.2.2.1, (r10.2.1.2.2.2.2.2.2.2.2.2.1, (r10.2.1.2.2.2.2.2.2.2.2.2.2.1, (r10.2.1.2.2.2.2.2.2.2.2.2.2.2.1, (r10.2.1.2.2.2.2.2.2.2.2.2.2.2.2.1, ()))))))))))))), ()))
      else
        if (x.2.1.1 == (15 : Int)) then
          (F_spec_l10Memory (x.1, x.2.1, ())).bind fun r11 =>
          if (!r11.1.1) then
            some ((false, ()), (r11.2.1, ()))
          else
            some ((true, ()), ((r11.2.1.1, (r11.2.1.2.1, (r11.2.1.2.2.1, (r11.2.1.2.2.2.1, (r1.1.1, (r11.2.1.2.2.2.2.2.1, (r11.2.1.2.2.2.2.2.2.1, (r11.2.1.2.2.2.2.2.2.2.1, (r11.2.1.2.2.2.2.2.2.2.2.1, (r11.2.1.2.2.2.2.2.2.2.2.2.1, (r11.2.1.2.2.2.2.2.2.2.2.2.2.1, (r11.2.1.2.2.2.2.2.2.2.2.2.2.2.1, (r11.2.1.2.2.2.2.2.2.2.2.2.2.2.2.1, ()))))))))))))), ()))
        else
          if (x.2.1.1 == (16 : Int)) then
            (F_spec_l10Taken ((x.1.2.2.2.1, (x.1.2.2.2.2.1, (x.1.2.2.2.2.2.1, (x.1.2.2.2.2.2.2.1, (x.1.2.2.2.2.2.2.2.1, (x.1.2.2.2.2.2.2.2.2.1, (x.1.2.2.2.2.2.2.2.2.2.1, (x.1.2.2.2.2.2.2.2.2.2.2.1, (x.1.2.2.2.2.2.2.2.2.2.2.2.1, ()))))))))), x.2.1, ())).bind fun r12 =>
            if r12.1.1 then
              some ((true, ()), ((x.1.1, (x.1.2.1, (x.1.2.2.1, (x.1.2.2.2.1, (r3.1.1, (x.1.2.2.2.2.2.1, (x.1.2.2.2.2.2.2.1, (x.1.2.2.2.2.2.2.2.1, (x.1.2.2.2.2.2.2.2.2.1, (x.1.2.2.2.2.2.2.2.2.2.1, (x.1.2.2.2.2.2.2.2.2.2.2.1, (x.1.2.2.2.2.2.2.2.2.2.2.2.1, (x.1.2.2.2.2.2.2.2.2.2.2.2.2.1, ()))))))))))))), ()))
            else
              some ((true, ()), ((x.1.1, (x.1.2.1, (x.1.2.2.1, (x.1.2.2.2.1, (r1.1.1, (x.1.2.2.2.2.2.1, (x.1.2.2.2.2.2.2.1, (x.1.2.2.2.2.2.2.2.1, (x.1.2.2.2.2.2.2.2.2.1, (x.1.2.2.2.2.2.2.2.2.2.1, (x.1.2.2.2.2.2.2.2.2.2.2.1, (x.1.2.2.2.2.2.2.2.2.2.2.2.1, (x.1.2.2.2.2.2.2.2.2.2.2.2.2.1, ()))))))))))))), ()))
          else
            if (x.2.1.1 == (17 : Int)) then
              (F_spec_l10Taken ((x.1.2.2.2.1, (x.1.2.2.2.2.1, (x.1.2.2.2.2.2.1, (x.1.2.2.2.2.2.2.1, (x.1.2.2.2.2.2.2.2.1, (x.1.2.2.2.2.2.2.2.2.1, (x.1.2.2.2.2.2.2.2.2.2.1, (x.1.2.2.2.2.2.2.2.2.2.2.1, (x.1.2.2.2.2.2.2.2.2.2.2.2.1, ()))))))))), x.2.1, ())).bind fun r13 =>
              if r13.1.1 then
                some ((true, ()), ((x.1.1, (x.1.2.1, (x.1.2.2.1, (x.1.2.2.2.1, (r3.1.1, (x.1.2.2.2.2.2.1, (x.1.2.2.2.2.2.2.1, (x.1.2.2.2.2.2.2.2.1, (x.1.2.2.2.2.2.2.2.2.1, (x.1.2.2.2.2.2.2.2.2.2.1, (x.1.2.2.2.2.2.2.2.2.2.2.1, (x.1.2.2.2.2.2.2.2.2.2.2.2.1, (x.1.2.2.2.2.2.2.2.2.2.2.2.2.1, ()))))))))))))), ()))
              else
                some ((true, ()), ((x.1.1, (x.1.2.1, (x.1.2.2.1, (x.1.2.2.2.1, (r1.1.1, (x.1.2.2.2.2.2.1, (x.1.2.2.2.2.2.2.1, (x.1.2.2.2.2.2.2.2.1, (x.1.2.2.2.2.2.2.2.2.1, (x.1.2.2.2.2.2.2.2.2.2.1, (x.1.2.2.2.2.2.2.2.2.2.2.1, (x.1.2.2.2.2.2.2.2.2.2.2.2.1, (x.1.2.2.2.2.2.2.2.2.2.2.2.2.1, ()))))))))))))), ()))
            else
              if (x.2.1.1 == (18 : Int)) then
                (F_spec_l10Taken ((x.1.2.2.2.1, (x.1.2.2.2.2.1, (x.1.2.2.2.2.2.1, (x.1.2.2.2.2.2.2.1, (x.1.2.2.2.2.2.2.2.1, (x.1.2.2.2.2.2.2.2.2.1, (x.1.2.2.2.2.2.2.2.2.2.1, (x.1.2.2.2.2.2.2.2.2.2.2.1, (x.1.2.2.2.2.2.2.2.2.2.2.2.1, ()))))))))), x.2.1, ())).bind fun r14 =>
                if r14.1.1 then
                  some ((true, ()), ((x.1.1, (x.1.2.1, (x.1.2.2.1, (x.1.2.2.2.1, (r3.1.1, (x.1.2.2.2.2.2.1, (x.1.2.2.2.2.2.2.1, (x.1.2.2.2.2.2.2.2.1, (x.1.2.2.2.2.2.2.2.2.1, (x.1.2.2.2.2.2.2.2.2.2.1, (x.1.2.2.2.2.2.2.2.2.2.2.1, (x.1.2.2.2.2.2.2.2.2.2.2.2.1, (x.1.2.2.2.2.2.2.2.2.2.2.2.2.1, ()))))))))))))), ()))
                else
                  some ((true, ()), ((x.1.1, (x.1.2.1, (x.1.2.2.1, (x.1.2.2.2.1, (r1.1.1, (x.1.2.2.2.2.2.1, (x.1.2.2.2.2.2.2.1, (x.1.2.2.2.2.2.2.2.1, (x.1.2.2.2.2.2.2.2.2.1, (x.1.2.2.2.2.2.2.2.2.2.1, (x.1.2.2.2.2.2.2.2.2.2.2.1, (x.1.2.2.2.2.2.2.2.2.2.2.2.1, (x.1.2.2.2.2.2.2.2.2.2.2.2.2.1, ()))))))))))))), ()))
              else
                if (x.2.1.1 == (19 : Int)) then
                  (F_spec_l10Put (x.1, x.2.1.2.1, r1.1.1, ())).bind fun r15 =>
                  some ((true, ()), ((r15.2.1.1, (r15.2.1.2.1, (r15.2.1.2.2.1, (r15.2.1.2.2.2.1, (r3.1.1, (r15.2.1.2.2.2.2.2.1, (r15.2.1.2.2.2.2.2.2.1, (r15.2.1.2.2.2.2.2.2.2.1, (r15.2.1.2.2.2.2.2.2.2.2.1, (r15.2.1.2.2.2.2.2.2.2.2.2.1, (r15.2.1.2.2.2.2.2.2.2.2.2.2.1, (r15.2.1.2.2.2.2.2.2.2.2.2.2.2.1, (r15.2.1.2.2.2.2.2.2.2.2.2.2.2.2.1, ()))))))))))))), ()))
                else
                  if (x.2.1.1 == (20 : Int)) then
                    if 0 ≤ x.2.1.2.2.1 ∧ x.2.1.2.2.1 < ((x.1.2.2.2.1.length : Nat) : Int) then
                      ((x.1.2.2.2.1)[(x.2.1.2.2.1).toNat]?).bind fun y16 =>
                      (F_spec_OffsetOf (x.2.1.2.2.2.1, ())).bind fun r17 =>
                      (F_spec_AddWords (y16, r17.1.1, ())).bind fun r18 =>
                      (F_spec_l10Put (x.1, x.2.1.2.1, r1.1.1, ())).bind fun r19 =>
                      some ((true, ()), ((r19.2.1.1, (r19.2.1.2.1, (r19.2.1.2.2.1, (r19.2.1.2.2.2.1, (r18.1.1, (r19.2.1.2.2.2.2.2.1, (r19.2.1.2.2.2.2.2.2.1, (r19.2.1.2.2.2.2.2.2.2.1, (r19.2.1.2.2.2.2.2.2.2.2.1, (r19.2.1.2.2.2.2.2.2.2.2.2.1, (r19.2.1.2.2.2.2.2.2.2.2.2.2.1, (r19.2.1.2.2.2.2.2.2.2.2.2.2.2.1, (r19.2.1.2.2.2.2.2.2.2.2.2.2.2.2.1, ()))))))))))))), ()))
                    else none
                  else
                    if (x.2.1.1 == (21 : Int)) then
                      (F_spec_l8Get ((x.1.2.2.2.1, (x.1.2.2.2.2.1, (x.1.2.2.2.2.2.1, (x.1.2.2.2.2.2.2.1, (x.1.2.2.2.2.2.2.2.1, (x.1.2.2.2.2.2.2.2.2.1, (x.1.2.2.2.2.2.2.2.2.2.1, (x.1.2.2.2.2.2.2.2.2.2.2.1, (x.1.2.2.2.2.2.2.2.2.2.2.2.1, ()))))))))), x.2.1.2.2.2.1, ())).bind fun r20 =>
                      (F_spec_l10Put (x.1, x.2.1.2.1, r20.1.1, ())).bind fun r21 =>
                      some ((true, ()), ((r21.2.1.1, (r21.2.1.2.1, (r21.2.1.2.2.1, (r21.2.1.2.2.2.1, (r1.1.1, (r21.2.1.2.2.2.2.2.1, (r21.2.1.2.2.2.2.2.2.1, (r21.2.1.2.2.2.2.2.2.2.1, (r21.2.1.2.2.2.2.2.2.2.2.1, (r21.2.1.2.2.2.2.2.2.2.2.2.1, (r21.2.1.2.2.2.2.2.2.2.2.2.2.1, (r21.2.1.2.2.2.2.2.2.2.2.2.2.2.1, (r21.2.1.2.2.2.2.2.2.2.2.2.2.2.2.1, ()))))))))))))), ()))
                    else
                      if (x.2.1.1 == (22 : Int)) then
                        if 0 ≤ x.2.1.2.2.1 ∧ x.2.1.2.2.1 < ((x.1.2.2.2.1.length : Nat) : Int) then
                          ((x.1.2.2.2.1)[(x.2.1.2.2.1).toNat]?).bind fun y22 =>
                          (F_spec_l8Set ((x.1.2.2.2.1, (x.1.2.2.2.2.1, (x.1.2.2.2.2.2.1, (x.1.2.2.2.2.2.2.1, (x.1.2.2.2.2.2.2.2.1, (x.1.2.2.2.2.2.2.2.2.1, (x.1.2.2.2.2.2.2.2.2.2.1, (x.1.2.2.2.2.2.2.2.2.2.2.1, (x.1.2.2.2.2.2.2.2.2.2.2.2.1, ()))))))))), x.2.1.2.2.2.1, y22, ())).bind fun r23 =>
                          some ((true, ()), ((x.1.1, (x.1.2.1, (x.1.2.2.1, (r23.2.1.1, (r1.1.1, (r23.2.1.2.2.1, (r23.2.1.2.2.2.1, (r23.2.1.2.2.2.2.1, (r23.2.1.2.2.2.2.2.1, (r23.2.1.2.2.2.2.2.2.1, (r23.2.1.2.2.2.2.2.2.2.1, (r23.2.1.2.2.2.2.2.2.2.2.1, (x.1.2.2.2.2.2.2.2.2.2.2.2.2.1, ()))))))))))))), ()))
                        else none
                      else
                        if (x.2.1.1 == (23 : Int)) then
                          (F_spec_l10Fall (x.1, (5 : Int), (0 : Int), ())).bind fun r24 =>
                          some ((false, ()), (r24.2.1, ()))
                        else
                          if (x.2.1.1 == (24 : Int)) then
                            (F_spec_l8Back ((x.1.2.2.2.1, (x.1.2.2.2.2.1, (x.1.2.2.2.2.2.1, (x.1.2.2.2.2.2.2.1, (x.1.2.2.2.2.2.2.2.1, (x.1.2.2.2.2.2.2.2.2.1, (x.1.2.2.2.2.2.2.2.2.2.1, (x.1.2.2.2.2.2.2.2.2.2.2.1, (x.1.2.2.2.2.2.2.2.2.2.2.2.1, ()))))))))), ())).bind fun r25 =>
                            some ((true, ()), ((x.1.1, (x.1.2.1, (x.1.2.2.1, (r25.2.1.1, (r25.2.1.2.1, (r25.2.1.2.2.1, (r25.2.1.2.2.2.1, (r25.2.1.2.2.2.2.1, (r25.2.1.2.2.2.2.2.1, (r25.2.1.2.2.2.2.2.2.1, (r25.2.1.2.2.2.2.2.2.2.1, (r25.2.1.2.2.2.2.2.2.2.2.1, (x.1.2.2.2.2.2.2.2.2.2.2.2.2.1, ()))))))))))))), ()))
                          else
                            if (x.2.1.1 == (25 : Int)) then
                              some ((true, ()), ((x.1.1, (x.1.2.1, (x.1.2.2.1, (x.1.2.2.2.1, (r1.1.1, (x.1.2.2.2.2.2.1, (x.1.2.2.2.2.2.2.1, (true, (x.1.2.2.2.2.2.2.2.2.1, (x.1.2.2.2.2.2.2.2.2.2.1, (x.1.2.2.2.2.2.2.2.2.2.2.1, (x.1.2.2.2.2.2.2.2.2.2.2.2.1, (x.1.2.2.2.2.2.2.2.2.2.2.2.2.1, ()))))))))))))), ()))
                            else
                              if (x.2.1.1 == (26 : Int)) then
                                some ((true, ()), ((x.1.1, (x.1.2.1, (x.1.2.2.1, (x.1.2.2.2.1, (x.1.2.2.2.2.1, (x.1.2.2.2.2.2.1, (true, (x.1.2.2.2.2.2.2.2.1, (x.1.2.2.2.2.2.2.2.2.1, (x.1.2.2.2.2.2.2.2.2.2.1, (x.1.2.2.2.2.2.2.2.2.2.2.1, (x.1.2.2.2.2.2.2.2.2.2.2.2.1, (x.1.2.2.2.2.2.2.2.2.2.2.2.2.1, ()))))))))))))), ()))
                              else
                                if 0 ≤ x.2.1.2.2.1 ∧ x.2.1.2.2.1 < ((x.1.2.2.2.1.length : Nat) : Int) then
                                  ((x.1.2.2.2.1)[(x.2.1.2.2.1).toNat]?).bind fun y26 =>
                                  if 0 ≤ x.2.1.2.2.2.1 ∧ x.2.1.2.2.2.1 < ((x.1.2.2.2.1.length : Nat) : Int) then
                                    ((x.1.2.2.2.1)[(x.2.1.2.2.2.1).toNat]?).bind fun y27 =>
                                    (F_spec_l2Alu (x.2.1.1, y26, y27, ())).bind fun r28 =>
                                    (F_spec_l10Put (x.1, x.2.1.2.1, r28.1.1, ())).bind fun r29 =>
                                    some ((true, ()), ((r29.2.1.1, (r29.2.1.2.1, (r29.2.1.2.2.1, (r29.2.1.2.2.2.1, (r1.1.1, (r29.2.1.2.2.2.2.2.1, (r29.2.1.2.2.2.2.2.2.1, (r29.2.1.2.2.2.2.2.2.2.1, (r29.2.1.2.2.2.2.2.2.2.2.1, (r29.2.1.2.2.2.2.2.2.2.2.2.1, (r29.2.1.2.2.2.2.2.2.2.2.2.2.1, (r29.2.1.2.2.2.2.2.2.2.2.2.2.2.1, (r29.2.1.2.2.2.2.2.2.2.2.2.2.2.2.1, ()))))))))))))), ()))
                                  else none
                                else none
abbrev C_spec_l10Do : Con := ⟨P_spec_l10Do, R_spec_l10Do, F_spec_l10Do, false⟩
abbrev G_spec_l10Do : Env := [(108, C_spec_l10Fall), (157, C_spec_AddWords), (158, C_spec_OffsetOf), (159, C_spec_l10Put), (160, C_spec_l10Memory), (161, C_spec_l10Taken), (162, C_spec_l8Get), (163, C_spec_l8Set), (164, C_spec_l8Back), (165, C_spec_l2Alu)]
theorem g_spec_l10Do : EnvOk Tryz.prog G_spec_l10Do := (env_cons s_spec_l10Fall (env_cons s_spec_AddWords (env_cons s_spec_OffsetOf (env_cons s_spec_l10Put (env_cons s_spec_l10Memory (env_cons s_spec_l10Taken (env_cons s_spec_l8Get (env_cons s_spec_l8Set (env_cons s_spec_l8Back (env_cons s_spec_l2Alu env_nil))))))))))
theorem r_spec_l10Do (x) : runFn T G_spec_l10Do [] Tryz.f111 P_spec_l10Do R_spec_l10Do x = F_spec_l10Do x := by kernel_rfl
theorem s_spec_l10Do : CallsOk Tryz.prog 111 C_spec_l10Do :=
  fn_calls (L := []) hT g_spec_l10Do Tryz.f111 (by kernel_rfl) (by kernel_rfl) (by kernel_rfl) (plain_ok (by kernel_rfl)) r_spec_l10Do
/-! spec.l1Min -/
abbrev P_spec_l1Min : List PK := [.val YI, .val YI]
abbrev R_spec_l1Min : List VK := [.s (.dat YI)]
def F_spec_l1Min (x : denP P_spec_l1Min) : Option (denV R_spec_l1Min × denQ P_spec_l1Min) :=
  if (ltI x.1 x.2.1) then
    some ((x.1, ()), ())
  else
    some ((x.2.1, ()), ())
abbrev C_spec_l1Min : Con := ⟨P_spec_l1Min, R_spec_l1Min, F_spec_l1Min, false⟩
abbrev G_spec_l1Min : Env := []
theorem g_spec_l1Min : EnvOk Tryz.prog G_spec_l1Min := env_nil
theorem r_spec_l1Min (x) : runFn T G_spec_l1Min [] Tryz.f112 P_spec_l1Min R_spec_l1Min x = F_spec_l1Min x := by kernel_rfl
theorem s_spec_l1Min : CallsOk Tryz.prog 112 C_spec_l1Min :=
  fn_calls (L := []) hT g_spec_l1Min Tryz.f112 (by kernel_rfl) (by kernel_rfl) (by kernel_rfl) (plain_ok (by kernel_rfl)) r_spec_l1Min
/-! spec.l10Step -/
abbrev P_spec_l10Step : List PK := [.box [.dat Y25, .own 2 YI, .dat YI, .own 2 YI, .dat YI, .own 2 YI, .dat .bool, .dat .bool, .dat .bool, .dat YI, .dat Y22, .own 2 YI, .dat YI] [.dat Y25, .own 2 YI, .dat YI, .own 2 YI, .dat YI, .own 2 YI, .dat .bool, .dat .bool, .dat .bool, .dat YI, .dat Y22, .own 2 YI, .dat YI]]
abbrev R_spec_l10Step : List VK := []
def F_spec_l10Step (x : denP P_spec_l10Step) : Option (denV R_spec_l10Step × denQ P_spec_l10Step) :=
  if x.1.2.2.2.2.2.2.1 then
    some ((), ((x.1.1, (x.1.2.1, ((-1 : Int), (x.1.2.2.2.1, (x.1.2.2.2.2.1, (x.1.2.2.2.2.2.1, (x.1.2.2.2.2.2.2.1, (x.1.2.2.2.2.2.2.2.1, (x.1.2.2.2.2.2.2.2.2.1, (x.1.2.2.2.2.2.2.2.2.2.1, (x.1.2.2.2.2.2.2.2.2.2.2.1, (x.1.2.2.2.2.2.2.2.2.2.2.2.1, ((-1 : Int), ()))))))))))))), ()))
  else
    (F_spec_l8Due ((x.1.2.2.2.1, (x.1.2.2.2.2.1, (x.1.2.2.2.2.2.1, (x.1.2.2.2.2.2.2.1, (x.1.2.2.2.2.2.2.2.1, (x.1.2.2.2.2.2.2.2.2.1, (x.1.2.2.2.2.2.2.2.2.2.1, (x.1.2.2.2.2.2.2.2.2.2.2.1, (x.1.2.2.2.2.2.2.2.2.2.2.2.1, ()))))))))), ())).bind fun r1 =>
    if (leI (0 : Int) r1.1.1) then
      let v2 := (IntKind.i64.wrap ((16 : Int) + r1.1.1))
      (F_spec_l10Fall ((x.1.1, (x.1.2.1, ((-1 : Int), (x.1.2.2.2.1, (x.1.2.2.2.2.1, (x.1.2.2.2.2.2.1, (x.1.2.2.2.2.2.2.1, (x.1.2.2.2.2.2.2.2.1, (x.1.2.2.2.2.2.2.2.2.1, (x.1.2.2.2.2.2.2.2.2.2.1, (x.1.2.2.2.2.2.2.2.2.2.2.1, (x.1.2.2.2.2.2.2.2.2.2.2.2.1, ((-1 : Int), ()))))))))))))), v2, (0 : Int), ())).bind fun r3 =>
      some ((), (r3.2.1, ()))
    else
      if x.1.2.2.2.2.2.2.2.1 then
        (F_spec_l8Pending ((x.1.2.2.2.1, (x.1.2.2.2.2.1, (x.1.2.2.2.2.2.1, (x.1.2.2.2.2.2.2.1, (x.1.2.2.2.2.2.2.2.1, (x.1.2.2.2.2.2.2.2.2.1, (x.1.2.2.2.2.2.2.2.2.2.1, (x.1.2.2.2.2.2.2.2.2.2.2.1, (x.1.2.2.2.2.2.2.2.2.2.2.2.1, ()))))))))), ())).bind fun r4 =>
        if 0 ≤ (7 : Int) ∧ (7 : Int) < ((x.1.2.2.2.2.2.1.length : Nat) : Int) then
          ((x.1.2.2.2.2.2.1)[((7 : Int)).toNat]?).bind fun y5 =>
          let v6 := (iand .i64 r4.1.1 y5)
          if (v6 == (0 : Int)) then
            some ((), ((x.1.1, (x.1.2.1, ((-1 : Int), (x.1.2.2.2.1, (x.1.2.2.2.2.1, (x.1.2.2.2.2.2.1, (x.1.2.2.2.2.2.2.1, (x.1.2.2.2.2.2.2.2.1, (x.1.2.2.2.2.2.2.2.2.1, (x.1.2.2.2.2.2.2.2.2.2.1, (x.1.2.2.2.2.2.2.2.2.2.2.1, (x.1.2.2.2.2.2.2.2.2.2.2.2.1, ((-1 : Int), ()))))))))))))), ()))
          else
            (F_spec_l10Place ((x.1.1, (x.1.2.1, ((-1 : Int), ((x.1.2.2.2.1, (x.1.2.2.2.2.1, (x.1.2.2.2.2.2.1, (x.1.2.2.2.2.2.2.1, (false, (x.1.2.2.2.2.2.2.2.2.1, (x.1.2.2.2.2.2.2.2.2.2.1, (x.1.2.2.2.2.2.2.2.2.2.2.1, (x.1.2.2.2.2.2.2.2.2.2.2.2.1, ()))))))))), ((-1 : Int), ()))))), x.1.2.2.2.2.1, (4 : Int), ())).bind fun r7 =>
            if (r7.1.2.1 != (0 : Int)) then
              (F_spec_l10Fall ((x.1.1, (x.1.2.1, ((-1 : Int), (x.1.2.2.2.1, (x.1.2.2.2.2.1, (x.1.2.2.2.2.2.1, (x.1.2.2.2.2.2.2.1, (false, (x.1.2.2.2.2.2.2.2.2.1, (x.1.2.2.2.2.2.2.2.2.2.1, (x.1.2.2.2.2.2.2.2.2.2.2.1, (x.1.2.2.2.2.2.2.2.2.2.2.2.1, ((-1 : Int), ()))))))))))))), (2 : Int), x.1.2.2.2.2.1, ())).bind fun r8 =>
              some ((), (r8.2.1, ()))
            else
              if 0 ≤ r7.1.1 ∧ r7.1.1 < ((x.1.2.1.length : Nat) : Int) then
                ((x.1.2.1)[(r7.1.1).toNat]?).bind fun y9 =>
                (F_spec_l2Decode (y9, ())).bind fun r10 =>
                if (!r10.1.2.1) then
                  if 0 ≤ r7.1.1 ∧ r7.1.1 < ((x.1.2.1.length : Nat) : Int) then
                    ((x.1.2.1)[(r7.1.1).toNat]?).bind fun y11 =>
                    (F_spec_l10Fall ((x.1.1, (x.1.2.1, ((-1 : Int), (x.1.2.2.2.1, (x.1.2.2.2.2.1, (x.1.2.2.2.2.2.1, (x.1.2.2.2.2.2.2.1, (false, (x.1.2.2.2.2.2.2.2.2.1, (x.1.2.2.2.2.2.2.2.2.2.1, (x.1.2.2.2.2.2.2.2.2.2.2.1, (x.1.2.2.2.2.2.2.2.2.2.2.2.1, ((-1 : Int), ()))))))))))))), (1 : Int), y11, ())).bind fun r12 =>
                    some ((), (r12.2.1, ()))
                  else none
                else
                  (F_spec_l10Do ((x.1.1, (x.1.2.1, ((-1 : Int), (x.1.2.2.2.1, (x.1.2.2.2.2.1, (x.1.2.2.2.2.2.1, (x.1.2.2.2.2.2.2.1, (false, (x.1.2.2.2.2.2.2.2.2.1, (x.1.2.2.2.2.2.2.2.2.2.1, (x.1.2.2.2.2.2.2.2.2.2.2.1, (x.1.2.2.2.2.2.2.2.2.2.2.2.1, ((-1 : Int), ()))))))))))))), r10.1.1, ())).bind fun r13 =>
                  if r13.1.1 then
                    let v14 := (IntKind.i64.wrap (r13.2.1.2.2.2.2.2.2.2.2.2.1 + (1 : Int)))
                    (F_spec_l1Min ((1000000000 : Int), v14, ())).bind fun r15 =>
                    some ((), ((r13.2.1.1, (r13.2.1.2.1, (r13.2.1.2.2.1, (r13.2.1.2.2.2.1, (r13.2.1.2.2.2.2.1, (r13.2.1.2.2.2.2.2.1, (r13.2.1.2.2.2.2.2.2.1, (r13.2.1.2.2.2.2.2.2.2.1, (r13.2.1.2.2.2.2.2.2.2.2.1, (r15.1.1, (r13.2.1.2.2.2.2.2.2.2.2.2.2.1, (r13.2.1.2.2.2.2.2.2.2.2.2.2.2.1, (r13.2.1.2.2.2.2.2.2.2.2.2.2.2.2.1, ()))))))))))))), ()))
                  else
                    some ((), (r13.2.1, ()))
              else none
        else none
      else
        (F_spec_l10Place ((x.1.1, (x.1.2.1, ((-1 : Int), ((x.1.2.2.2.1, (x.1.2.2.2.2.1, (x.1.2.2.2.2.2.1, (x.1.2.2.2.2.2.2.1, (x.1.2.2.2.2.2.2.2.1, (x.1.2.2.2.2.2.2.2.2.1, (x.1.2.2.2.2.2.2.2.2.2.1, (x.1.2.2.2.2.2.2.2.2.2.2.1, (x.1.2.2.2.2.2.2.2.2.2.2.2.1, ()))))))))), ((-1 : Int), ()))))), x.1.2.2.2.2.1, (4 : Int), ())).bind fun r16 =>
        if (r16.1.2.1 != (0 : Int)) then
          (F_spec_l10Fall ((x.1.1, (x.1.2.1, ((-1 : Int), (x.1.2.2.2.1, (x.1.2.2.2.2.1, (x.1.2.2.2.2.2.1, (x.1.2.2.2.2.2.2.1, (x.1.2.2.2.2.2.2.2.1, (x.1.2.2.2.2.2.2.2.2.1, (x.1.2.2.2.2.2.2.2.2.2.1, (x.1.2.2.2.2.2.2.2.2.2.2.1, (x.1.2.2.2.2.2.2.2.2.2.2.2.1, ((-1 : Int), ()))))))))))))), (2 : Int), x.1.2.2.2.2.1, ())).bind fun r17 =>
          some ((), (r17.2.1, ()))
        else
          if 0 ≤ r16.1.1 ∧ r16.1.1 < ((x.1.2.1.length : Nat) : Int) then
            ((x.1.2.1)[(r16.1.1).toNat]?).bind fun y18 =>
            (F_spec_l2Decode (y18, ())).bind fun r19 =>
            if (!r19.1.2.1) then
              if 0 ≤ r16.1.1 ∧ r16.1.1 < ((x.1.2.1.length : Nat) : Int) then
                ((x.1.2.1)[(r16.1.1).toNat]?).bind fun y20 =>
                (F_spec_l10Fall ((x.1.1, (x.1.2.1, ((-1 : Int), (x.1.2.2.2.1, (x.1.2.2.2.2.1, (x.1.2.2.2.2.2.1, (x.1.2.2.2.2.2.2.1, (x.1.2.2.2.2.2.2.2.1, (x.1.2.2.2.2.2.2.2.2.1, (x.1.2.2.2.2.2.2.2.2.2.1, (x.1.2.2.2.2.2.2.2.2.2.2.1, (x.1.2.2.2.2.2.2.2.2.2.2.2.1, ((-1 : Int), ()))))))))))))), (1 : Int), y20, ())).bind fun r21 =>
                some ((), (r21.2.1, ()))
              else none
            else
              (F_spec_l10Do ((x.1.1, (x.1.2.1, ((-1 : Int), (x.1.2.2.2.1, (x.1.2.2.2.2.1, (x.1.2.2.2.2.2.1, (x.1.2.2.2.2.2.2.1, (x.1.2.2.2.2.2.2.2.1, (x.1.2.2.2.2.2.2.2.2.1, (x.1.2.2.2.2.2.2.2.2.2.1, (x.1.2.2.2.2.2.2.2.2.2.2.1, (x.1.2.2.2.2.2.2.2.2.2.2.2.1, ((-1 : Int), ()))))))))))))), r19.1.1, ())).bind fun r22 =>
              if r22.1.1 then
                let v23 := (IntKind.i64.wrap (r22.2.1.2.2.2.2.2.2.2.2.2.1 + (1 : Int)))
                (F_spec_l1Min ((1000000000 : Int), v23, ())).bind fun r24 =>
                some ((), ((r22.2.1.1, (r22.2.1.2.1, (r22.2.1.2.2.1, (r22.2.1.2.2.2.1, (r22.2.1.2.2.2.2.1, (r22.2.1.2.2.2.2.2.1, (r22.2.1.2.2.2.2.2.2.1, (r22.2.1.2.2.2.2.2.2.2.1, (r22.2.1.2.2.2.2.2.2.2.2.1, (r24.1.1, (r22.2.1.2.2.2.2.2.2.2.2.2.2.1, (r22.2.1.2.2.2.2.2.2.2.2.2.2.2.1, (r22.2.1.2.2.2.2.2.2.2.2.2.2.2.2.1, ()))))))))))))), ()))
              else
                some ((), (r22.2.1, ()))
          else none
abbrev C_spec_l10Step : Con := ⟨P_spec_l10Step, R_spec_l10Step, F_spec_l10Step, false⟩
abbrev G_spec_l10Step : Env := [(81, C_spec_l10Place), (107, C_spec_l8Due), (108, C_spec_l10Fall), (109, C_spec_l8Pending), (110, C_spec_l2Decode), (111, C_spec_l10Do), (112, C_spec_l1Min)]
theorem g_spec_l10Step : EnvOk Tryz.prog G_spec_l10Step := (env_cons s_spec_l10Place (env_cons s_spec_l8Due (env_cons s_spec_l10Fall (env_cons s_spec_l8Pending (env_cons s_spec_l2Decode (env_cons s_spec_l10Do (env_cons s_spec_l1Min env_nil)))))))
theorem r_spec_l10Step (x) : runFn T G_spec_l10Step [] Tryz.f60 P_spec_l10Step R_spec_l10Step x = F_spec_l10Step x := by kernel_rfl
theorem s_spec_l10Step : CallsOk Tryz.prog 60 C_spec_l10Step :=
  fn_calls (L := []) hT g_spec_l10Step Tryz.f60 (by kernel_rfl) (by kernel_rfl) (by kernel_rfl) (plain_ok (by kernel_rfl)) r_spec_l10Step
/-! spec.StepHart -/
abbrev P_spec_StepHart : List PK := [.val Y23, .val Y25, .val Y22]
abbrev R_spec_StepHart : List VK := [.g [.dat YI, .dat YI, .dat YI, .own 2 YI, .dat YI, .own 2 YI, .dat .bool, .dat .bool, .dat .bool, .dat YI, .dat Y22, .own 2 YI, .own 2 YI]]
def F_spec_StepHart (x : denP P_spec_StepHart) : Option (denV R_spec_StepHart × denQ P_spec_StepHart) :=
  (F_spec_l10Asked (x.1, x.2.1, x.2.2.1, ())).bind fun r1 =>
  if (r1.1.1 != (0 : Int)) then
    some (((r1.1.1, ((0 : Int), ((0 : Int), (([] : List (den YI)), ((0 : Int), (([] : List (den YI)), (false, (false, (false, ((0 : Int), (([] : List (den YI)), (([] : List (den YI)), (([] : List (den YI)), ()))))))))))))), ()), ())
  else
    (F_spec_l10New (x.1, x.2.1, x.2.2.1, ())).bind fun r2 =>
    (F_spec_l10Step (r2.1.1, ())).bind fun r3 =>
    some ((((0 : Int), (r3.2.1.2.2.2.2.2.2.2.2.2.2.2.2.1, (r3.2.1.2.2.1, (r3.2.1.2.2.2.1, (r3.2.1.2.2.2.2.1, (r3.2.1.2.2.2.2.2.1, (r3.2.1.2.2.2.2.2.2.1, (r3.2.1.2.2.2.2.2.2.2.1, (r3.2.1.2.2.2.2.2.2.2.2.1, (r3.2.1.2.2.2.2.2.2.2.2.2.1, (r3.2.1.2.2.2.2.2.2.2.2.2.2.1, (r3.2.1.2.2.2.2.2.2.2.2.2.2.2.1, (r3.2.1.2.1, ()))))))))))))), ()), ())
abbrev C_spec_StepHart : Con := ⟨P_spec_StepHart, R_spec_StepHart, F_spec_StepHart, false⟩
abbrev G_spec_StepHart : Env := [(58, C_spec_l10Asked), (59, C_spec_l10New), (60, C_spec_l10Step)]
theorem g_spec_StepHart : EnvOk Tryz.prog G_spec_StepHart := (env_cons s_spec_l10Asked (env_cons s_spec_l10New (env_cons s_spec_l10Step env_nil)))
theorem r_spec_StepHart (x) : runFn T G_spec_StepHart [] Tryz.f12 P_spec_StepHart R_spec_StepHart x = F_spec_StepHart x := by kernel_rfl
theorem s_spec_StepHart : CallsOk Tryz.prog 12 C_spec_StepHart :=
  fn_calls (L := []) hT g_spec_StepHart Tryz.f12 (by kernel_rfl) (by kernel_rfl) (by kernel_rfl) (plain_ok (by kernel_rfl)) r_spec_StepHart
/-! impl.within -/
abbrev P_impl_within : List PK := [.val YI, .val YI, .val YI]
abbrev R_impl_within : List VK := [.s (.dat .bool)]
def F_impl_within (x : denP P_impl_within) : Option (denV R_impl_within × denQ P_impl_within) :=
  if (leI x.2.1 x.1) = true then
    some (((leI x.1 x.2.2.1), ()), ())
  else
    some ((false, ()), ())
abbrev C_impl_within : Con := ⟨P_impl_within, R_impl_within, F_impl_within, false⟩
abbrev G_impl_within : Env := []
theorem g_impl_within : EnvOk Tryz.prog G_impl_within := env_nil
theorem r_impl_within (x) : runFn T G_impl_within [] Tryz.f67 P_impl_within R_impl_within x = F_impl_within x := by kernel_rfl
theorem s_impl_within : CallsOk Tryz.prog 67 C_impl_within :=
  fn_calls (L := []) hT g_impl_within Tryz.f67 (by kernel_rfl) (by kernel_rfl) (by kernel_rfl) (plain_ok (by kernel_rfl)) r_impl_within
/-! impl.isWord -/
abbrev P_impl_isWord : List PK := [.val YI]
abbrev R_impl_isWord : List VK := [.s (.dat .bool)]
def F_impl_isWord (x : denP P_impl_isWord) : Option (denV R_impl_isWord × denQ P_impl_isWord) :=
  (F_impl_within (x.1, (0 : Int), (4294967295 : Int), ())).bind fun r1 =>
  some ((r1.1.1, ()), ())
abbrev C_impl_isWord : Con := ⟨P_impl_isWord, R_impl_isWord, F_impl_isWord, false⟩
abbrev G_impl_isWord : Env := [(67, C_impl_within)]
theorem g_impl_isWord : EnvOk Tryz.prog G_impl_isWord := (env_cons s_impl_within env_nil)
theorem r_impl_isWord (x) : runFn T G_impl_isWord [] Tryz.f77 P_impl_isWord R_impl_isWord x = F_impl_isWord x := by kernel_rfl
theorem s_impl_isWord : CallsOk Tryz.prog 77 C_impl_isWord :=
  fn_calls (L := []) hT g_impl_isWord Tryz.f77 (by kernel_rfl) (by kernel_rfl) (by kernel_rfl) (plain_ok (by kernel_rfl)) r_impl_isWord
/-! impl.areWords.1 -/
abbrev P_impl_areWords_1 : List PK := [.val YI]
abbrev R_impl_areWords_1 : List VK := [.s (.dat .bool)]
def F_impl_areWords_1 (x : denP P_impl_areWords_1) : Option (denV R_impl_areWords_1 × denQ P_impl_areWords_1) :=
  (F_impl_isWord (x.1, ())).bind fun r1 =>
  some (((!r1.1.1), ()), ())
abbrev C_impl_areWords_1 : Con := ⟨P_impl_areWords_1, R_impl_areWords_1, F_impl_areWords_1, false⟩
abbrev G_impl_areWords_1 : Env := [(77, C_impl_isWord)]
theorem g_impl_areWords_1 : EnvOk Tryz.prog G_impl_areWords_1 := (env_cons s_impl_isWord env_nil)
theorem r_impl_areWords_1 (x) : runFn T G_impl_areWords_1 [] Tryz.f128 P_impl_areWords_1 R_impl_areWords_1 x = F_impl_areWords_1 x := by kernel_rfl
theorem s_impl_areWords_1 : CallsOk Tryz.prog 128 C_impl_areWords_1 :=
  fn_calls (L := []) hT g_impl_areWords_1 Tryz.f128 (by kernel_rfl) (by kernel_rfl) (by kernel_rfl) (plain_ok (by kernel_rfl)) r_impl_areWords_1
/-! slices.IndexFunc[int64,int64] -/
abbrev P_slices_IndexFunc_int64_of_impl_areWords_1 : List PK := [.val Y22, .fn 128 []]
abbrev R_slices_IndexFunc_int64_of_impl_areWords_1 : List VK := [.s (.dat YI)]
abbrev i_slices_IndexFunc_int64_of_impl_areWords_1_2 : Shp := { slots := [(0, .s (.dat Y22)), (1, .s (.fn 128 [])), (7, .s (.dat YI)), (8, .s (.dat YI))], boxes := [], rows := [] }
abbrev o_slices_IndexFunc_int64_of_impl_areWords_1_2 : List (Ex × Shp) := [(.exit 0, { slots := [], boxes := [], rows := [] }), (.ret, { slots := [(4, .s (.dat YI))], boxes := [], rows := [] })]
def l_slices_IndexFunc_int64_of_impl_areWords_1_2 (rec : i_slices_IndexFunc_int64_of_impl_areWords_1_2.den → Option (denO o_slices_IndexFunc_int64_of_impl_areWords_1_2)) (u2 : i_slices_IndexFunc_int64_of_impl_areWords_1_2.den) : Option (denO o_slices_IndexFunc_int64_of_impl_areWords_1_2) :=
  if (ltI u2.1.2.2.2.1 u2.1.2.2.1) then
    if 0 ≤ u2.1.2.2.2.1 then
      ((u2.1.1)[(u2.1.2.2.2.1).toNat]?).bind fun y4 =>
      (F_impl_areWords_1 (y4, ())).bind fun r5 =>
      if r5.1.1 then
        some (.inr (.inl ((u2.1.2.2.2.1, ()), ((), ()))))
      else
        let v6 := (IntKind.i64.wrap (u2.1.2.2.2.1 + (1 : Int)))
        rec ((u2.1.1, ((), (u2.1.2.2.1, (v6, ())))), ((), ()))
    else none
  else
    some (.inl ((), ((), ())))
def L_slices_IndexFunc_int64_of_impl_areWords_1_2 (x : i_slices_IndexFunc_int64_of_impl_areWords_1_2.den) : Option (denO o_slices_IndexFunc_int64_of_impl_areWords_1_2) := iterF l_slices_IndexFunc_int64_of_impl_areWords_1_2 lots x
def F_slices_IndexFunc_int64_of_impl_areWords_1 (x : denP P_slices_IndexFunc_int64_of_impl_areWords_1) : Option (denV R_slices_IndexFunc_int64_of_impl_areWords_1 × denQ P_slices_IndexFunc_int64_of_impl_areWords_1) :=
  let v1 := ((x.1.length : Nat) : Int)
  (L_slices_IndexFunc_int64_of_impl_areWords_1_2 ((x.1, ((), (v1, ((0 : Int), ())))), ((), ()))).bind fun z7 =>
  match z7 with
  | .inl x8 =>
    some (((-1 : Int), ()), ())
  | .inr z7_ =>
    match z7_ with
    | .inl x9 =>
      some ((x9.1.1, ()), ())
    | .inr z7__ =>
      none
abbrev C_slices_IndexFunc_int64_of_impl_areWords_1 : Con := ⟨P_slices_IndexFunc_int64_of_impl_areWords_1, R_slices_IndexFunc_int64_of_impl_areWords_1, F_slices_IndexFunc_int64_of_impl_areWords_1, false⟩
abbrev G_slices_IndexFunc_int64_of_impl_areWords_1 : Env := [(128, C_impl_areWords_1)]
theorem g_slices_IndexFunc_int64_of_impl_areWords_1 : EnvOk Tryz.prog G_slices_IndexFunc_int64_of_impl_areWords_1 := (env_cons s_impl_areWords_1 env_nil)
abbrev c_slices_IndexFunc_int64_of_impl_areWords_1_2 : Cut := ⟨i_slices_IndexFunc_int64_of_impl_areWords_1_2, o_slices_IndexFunc_int64_of_impl_areWords_1_2, fun x => iterF l_slices_IndexFunc_int64_of_impl_areWords_1_2 lots x⟩
theorem t_slices_IndexFunc_int64_of_impl_areWords_1_2 (rec x) : run T G_slices_IndexFunc_int64_of_impl_areWords_1 [] (nav Tryz.f175 [1, 0, 1, 0, 0]) (mk 19 i_slices_IndexFunc_int64_of_impl_areWords_1_2 x) (loopK i_slices_IndexFunc_int64_of_impl_areWords_1_2 o_slices_IndexFunc_int64_of_impl_areWords_1_2 rec) = l_slices_IndexFunc_int64_of_impl_areWords_1_2 rec x := by kernel_rfl
theorem k_slices_IndexFunc_int64_of_impl_areWords_1_2 : CutOk Tryz.prog 19 (.loop (nav Tryz.f175 [1, 0, 1, 0, 0])) c_slices_IndexFunc_int64_of_impl_areWords_1_2 :=
  loop_cut (L := []) hT g_slices_IndexFunc_int64_of_impl_areWords_1 t_slices_IndexFunc_int64_of_impl_areWords_1_2 (plain_ok (by kernel_rfl)) _
theorem r_slices_IndexFunc_int64_of_impl_areWords_1 (x) : runFn T G_slices_IndexFunc_int64_of_impl_areWords_1 [(2, c_slices_IndexFunc_int64_of_impl_areWords_1_2)] Tryz.f175 P_slices_IndexFunc_int64_of_impl_areWords_1 R_slices_IndexFunc_int64_of_impl_areWords_1 x = F_slices_IndexFunc_int64_of_impl_areWords_1 x := by kernel_rfl
theorem s_slices_IndexFunc_int64_of_impl_areWords_1 : CallsOk Tryz.prog 175 C_slices_IndexFunc_int64_of_impl_areWords_1 :=
  fn_calls (L := [(2, c_slices_IndexFunc_int64_of_impl_areWords_1_2)]) hT g_slices_IndexFunc_int64_of_impl_areWords_1 Tryz.f175 (by kernel_rfl) (by kernel_rfl) (by kernel_rfl) (seq_ok (plain_ok (by kernel_rfl)) (seq_ok (seq_ok (plain_ok (by kernel_rfl)) (block_ok (by kernel_rfl) (loop_ok (by kernel_rfl) k_slices_IndexFunc_int64_of_impl_areWords_1_2))) (plain_ok (by kernel_rfl)))) r_slices_IndexFunc_int64_of_impl_areWords_1
/-! slices.ContainsFunc[int64,int64] -/
abbrev P_slices_ContainsFunc_int64_of_impl_areWords_1 : List PK := [.val Y22, .fn 128 []]
abbrev R_slices_ContainsFunc_int64_of_impl_areWords_1 : List VK := [.s (.dat .bool)]
def F_slices_ContainsFunc_int64_of_impl_areWords_1 (x : denP P_slices_ContainsFunc_int64_of_impl_areWords_1) : Option (denV R_slices_ContainsFunc_int64_of_impl_areWords_1 × denQ P_slices_ContainsFunc_int64_of_impl_areWords_1) :=
  (F_slices_IndexFunc_int64_of_impl_areWords_1 (x.1, (), ())).bind fun r1 =>
  some (((leI (0 : Int) r1.1.1), ()), ())
abbrev C_slices_ContainsFunc_int64_of_impl_areWords_1 : Con := ⟨P_slices_ContainsFunc_int64_of_impl_areWords_1, R_slices_ContainsFunc_int64_of_impl_areWords_1, F_slices_ContainsFunc_int64_of_impl_areWords_1, false⟩
abbrev G_slices_ContainsFunc_int64_of_impl_areWords_1 : Env := [(175, C_slices_IndexFunc_int64_of_impl_areWords_1)]
theorem g_slices_ContainsFunc_int64_of_impl_areWords_1 : EnvOk Tryz.prog G_slices_ContainsFunc_int64_of_impl_areWords_1 := (env_cons s_slices_IndexFunc_int64_of_impl_areWords_1 env_nil)
theorem r_slices_ContainsFunc_int64_of_impl_areWords_1 (x) : runFn T G_slices_ContainsFunc_int64_of_impl_areWords_1 [] Tryz.f127 P_slices_ContainsFunc_int64_of_impl_areWords_1 R_slices_ContainsFunc_int64_of_impl_areWords_1 x = F_slices_ContainsFunc_int64_of_impl_areWords_1 x := by kernel_rfl
theorem s_slices_ContainsFunc_int64_of_impl_areWords_1 : CallsOk Tryz.prog 127 C_slices_ContainsFunc_int64_of_impl_areWords_1 :=
  fn_calls (L := []) hT g_slices_ContainsFunc_int64_of_impl_areWords_1 Tryz.f127 (by kernel_rfl) (by kernel_rfl) (by kernel_rfl) (plain_ok (by kernel_rfl)) r_slices_ContainsFunc_int64_of_impl_areWords_1
/-! impl.areWords -/
abbrev P_impl_areWords : List PK := [.val Y22]
abbrev R_impl_areWords : List VK := [.s (.dat .bool)]
def F_impl_areWords (x : denP P_impl_areWords) : Option (denV R_impl_areWords × denQ P_impl_areWords) :=
  (F_slices_ContainsFunc_int64_of_impl_areWords_1 (x.1, (), ())).bind fun r1 =>
  some (((!r1.1.1), ()), ())
abbrev C_impl_areWords : Con := ⟨P_impl_areWords, R_impl_areWords, F_impl_areWords, false⟩
abbrev G_impl_areWords : Env := [(127, C_slices_ContainsFunc_int64_of_impl_areWords_1)]
theorem g_impl_areWords : EnvOk Tryz.prog G_impl_areWords := (env_cons s_slices_ContainsFunc_int64_of_impl_areWords_1 env_nil)
theorem r_impl_areWords (x) : runFn T G_impl_areWords [] Tryz.f76 P_impl_areWords R_impl_areWords x = F_impl_areWords x := by kernel_rfl
theorem s_impl_areWords : CallsOk Tryz.prog 76 C_impl_areWords :=
  fn_calls (L := []) hT g_impl_areWords Tryz.f76 (by kernel_rfl) (by kernel_rfl) (by kernel_rfl) (plain_ok (by kernel_rfl)) r_impl_areWords
end Go.Proofs.YtkbcjonmodmfcaaGreatDoor
