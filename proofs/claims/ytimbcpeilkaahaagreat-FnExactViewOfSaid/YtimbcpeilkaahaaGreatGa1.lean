/- The functions of the laws, each as a plain function of data (F), and that the program's text does what F says. Printed by a program (wip/tools/gen.py). -/
import Derived.Test.YtimbcpeilkaahaaGreatGt
namespace Go.Proofs.YtimbcpeilkaahaaGreat
open Go Go.RowKit S Go.Proofs
set_option maxRecDepth 100000
set_option linter.unusedVariables false
/-! laws.szInt64S -/
abbrev P_laws_szInt64S : List PK := [.val Y28, .val YI]
abbrev R_laws_szInt64S : List VK := [.s (.dat YI)]
def F_laws_szInt64S (x : denP P_laws_szInt64S) : Option (denV R_laws_szInt64S × denQ P_laws_szInt64S) :=
  let v1 := ((x.1.length : Nat) : Int)
  let v2 := (IntKind.i64.wrap (x.2.1 - v1))
  if (ltI v2 (0 : Int)) then
    some (((-1 : Int), ()), ())
  else
    some ((v2, ()), ())
abbrev C_laws_szInt64S : Con := ⟨P_laws_szInt64S, R_laws_szInt64S, F_laws_szInt64S, false⟩
abbrev G_laws_szInt64S : Env := []
theorem g_laws_szInt64S : EnvOk Tryz.prog G_laws_szInt64S := env_nil
theorem r_laws_szInt64S (x) : runFn T G_laws_szInt64S [] Tryz.f49 P_laws_szInt64S R_laws_szInt64S x = F_laws_szInt64S x := by kernel_rfl
theorem s_laws_szInt64S : CallsOk Tryz.prog 49 C_laws_szInt64S :=
  fn_calls (L := []) hT g_laws_szInt64S Tryz.f49 (by kernel_rfl) (by kernel_rfl) (by kernel_rfl) (plain_ok (by kernel_rfl)) r_laws_szInt64S
/-! laws.szInt64SS -/
abbrev P_laws_szInt64SS : List PK := [.val Y22, .val YI]
abbrev R_laws_szInt64SS : List VK := [.s (.dat YI)]
abbrev i_laws_szInt64SS_5 : Shp := { slots := [(0, .s (.dat Y22)), (1, .s (.dat YI)), (5, .s (.dat YI))], boxes := [], rows := [] }
abbrev o_laws_szInt64SS_5 : List (Ex × Shp) := [(.exit 0, { slots := [(1, .s (.dat YI))], boxes := [], rows := [] }), (.ret, { slots := [(4, .s (.dat YI))], boxes := [], rows := [] })]
def l_laws_szInt64SS_5 (rec : i_laws_szInt64SS_5.den → Option (denO o_laws_szInt64SS_5)) (u5 : i_laws_szInt64SS_5.den) : Option (denO o_laws_szInt64SS_5) :=
  let v5 := ((u5.1.1.length : Nat) : Int)
  if (ltI u5.1.2.2.1 v5) then
    if 0 ≤ u5.1.2.2.1 then
      ((u5.1.1)[(u5.1.2.2.1).toNat]?).bind fun y6 =>
      (F_laws_szInt64S (y6, u5.1.2.1, ())).bind fun r7 =>
      if (ltI r7.1.1 (0 : Int)) then
        some (.inr (.inl (((-1 : Int), ()), ((), ()))))
      else
        let v8 := (IntKind.i64.wrap (u5.1.2.2.1 + (1 : Int)))
        rec ((u5.1.1, (r7.1.1, (v8, ()))), ((), ()))
    else none
  else
    some (.inl ((u5.1.2.1, ()), ((), ())))
def L_laws_szInt64SS_5 (x : i_laws_szInt64SS_5.den) : Option (denO o_laws_szInt64SS_5) := iterF l_laws_szInt64SS_5 lots x
def F_laws_szInt64SS (x : denP P_laws_szInt64SS) : Option (denV R_laws_szInt64SS × denQ P_laws_szInt64SS) :=
  let v1 := ((x.1.length : Nat) : Int)
  let v2 := (IntKind.i64.wrap (x.2.1 - v1))
  if (ltI v2 (0 : Int)) then
    some (((-1 : Int), ()), ())
  else
    (L_laws_szInt64SS_5 ((x.1, (v2, ((0 : Int), ()))), ((), ()))).bind fun z9 =>
    match z9 with
    | .inl x10 =>
      some ((x10.1.1, ()), ())
    | .inr z9_ =>
      match z9_ with
      | .inl x11 =>
        some ((x11.1.1, ()), ())
      | .inr z9__ =>
        none
abbrev C_laws_szInt64SS : Con := ⟨P_laws_szInt64SS, R_laws_szInt64SS, F_laws_szInt64SS, false⟩
abbrev G_laws_szInt64SS : Env := [(49, C_laws_szInt64S)]
theorem g_laws_szInt64SS : EnvOk Tryz.prog G_laws_szInt64SS := (env_cons s_laws_szInt64S env_nil)
abbrev c_laws_szInt64SS_5 : Cut := ⟨i_laws_szInt64SS_5, o_laws_szInt64SS_5, fun x => iterF l_laws_szInt64SS_5 lots x⟩
theorem t_laws_szInt64SS_5 (rec x) : run T G_laws_szInt64SS [] (nav Tryz.f19 [1, 1, 1, 0, 1, 0, 0]) (mk 27 i_laws_szInt64SS_5 x) (loopK i_laws_szInt64SS_5 o_laws_szInt64SS_5 rec) = l_laws_szInt64SS_5 rec x := by kernel_rfl
theorem k_laws_szInt64SS_5 : CutOk Tryz.prog 27 (.loop (nav Tryz.f19 [1, 1, 1, 0, 1, 0, 0])) c_laws_szInt64SS_5 :=
  loop_cut (L := []) hT g_laws_szInt64SS t_laws_szInt64SS_5 (plain_ok (by kernel_rfl)) _
theorem r_laws_szInt64SS (x) : runFn T G_laws_szInt64SS [(5, c_laws_szInt64SS_5)] Tryz.f19 P_laws_szInt64SS R_laws_szInt64SS x = F_laws_szInt64SS x := by kernel_rfl
theorem s_laws_szInt64SS : CallsOk Tryz.prog 19 C_laws_szInt64SS :=
  fn_calls (L := [(5, c_laws_szInt64SS_5)]) hT g_laws_szInt64SS Tryz.f19 (by kernel_rfl) (by kernel_rfl) (by kernel_rfl) (seq_ok (plain_ok (by kernel_rfl)) (seq_ok (plain_ok (by kernel_rfl)) (seq_ok (plain_ok (by kernel_rfl)) (seq_ok (seq_ok (plain_ok (by kernel_rfl)) (block_ok (by kernel_rfl) (loop_ok (by kernel_rfl) k_laws_szInt64SS_5))) (plain_ok (by kernel_rfl)))))) r_laws_szInt64SS
/-! laws.szLaneS -/
abbrev P_laws_szLaneS : List PK := [.val Y23, .val YI]
abbrev R_laws_szLaneS : List VK := [.s (.dat YI)]
def F_laws_szLaneS (x : denP P_laws_szLaneS) : Option (denV R_laws_szLaneS × denQ P_laws_szLaneS) :=
  let v1 := ((x.1.length : Nat) : Int)
  let v2 := (IntKind.i64.wrap (x.2.1 - v1))
  if (ltI v2 (0 : Int)) then
    some (((-1 : Int), ()), ())
  else
    some ((v2, ()), ())
abbrev C_laws_szLaneS : Con := ⟨P_laws_szLaneS, R_laws_szLaneS, F_laws_szLaneS, false⟩
abbrev G_laws_szLaneS : Env := []
theorem g_laws_szLaneS : EnvOk Tryz.prog G_laws_szLaneS := env_nil
theorem r_laws_szLaneS (x) : runFn T G_laws_szLaneS [] Tryz.f62 P_laws_szLaneS R_laws_szLaneS x = F_laws_szLaneS x := by kernel_rfl
theorem s_laws_szLaneS : CallsOk Tryz.prog 62 C_laws_szLaneS :=
  fn_calls (L := []) hT g_laws_szLaneS Tryz.f62 (by kernel_rfl) (by kernel_rfl) (by kernel_rfl) (plain_ok (by kernel_rfl)) r_laws_szLaneS
/-! laws.szBellS -/
abbrev P_laws_szBellS : List PK := [.val Y24, .val YI]
abbrev R_laws_szBellS : List VK := [.s (.dat YI)]
def F_laws_szBellS (x : denP P_laws_szBellS) : Option (denV R_laws_szBellS × denQ P_laws_szBellS) :=
  let v1 := ((x.1.length : Nat) : Int)
  let v2 := (IntKind.i64.wrap (x.2.1 - v1))
  if (ltI v2 (0 : Int)) then
    some (((-1 : Int), ()), ())
  else
    some ((v2, ()), ())
abbrev C_laws_szBellS : Con := ⟨P_laws_szBellS, R_laws_szBellS, F_laws_szBellS, false⟩
abbrev G_laws_szBellS : Env := []
theorem g_laws_szBellS : EnvOk Tryz.prog G_laws_szBellS := env_nil
theorem r_laws_szBellS (x) : runFn T G_laws_szBellS [] Tryz.f63 P_laws_szBellS R_laws_szBellS x = F_laws_szBellS x := by kernel_rfl
theorem s_laws_szBellS : CallsOk Tryz.prog 63 C_laws_szBellS :=
  fn_calls (L := []) hT g_laws_szBellS Tryz.f63 (by kernel_rfl) (by kernel_rfl) (by kernel_rfl) (plain_ok (by kernel_rfl)) r_laws_szBellS
/-! laws.szSlotS -/
abbrev P_laws_szSlotS : List PK := [.val Y24, .val YI]
abbrev R_laws_szSlotS : List VK := [.s (.dat YI)]
def F_laws_szSlotS (x : denP P_laws_szSlotS) : Option (denV R_laws_szSlotS × denQ P_laws_szSlotS) :=
  let v1 := ((x.1.length : Nat) : Int)
  let v2 := (IntKind.i64.wrap (x.2.1 - v1))
  if (ltI v2 (0 : Int)) then
    some (((-1 : Int), ()), ())
  else
    some ((v2, ()), ())
abbrev C_laws_szSlotS : Con := ⟨P_laws_szSlotS, R_laws_szSlotS, F_laws_szSlotS, false⟩
abbrev G_laws_szSlotS : Env := []
theorem g_laws_szSlotS : EnvOk Tryz.prog G_laws_szSlotS := env_nil
theorem r_laws_szSlotS (x) : runFn T G_laws_szSlotS [] Tryz.f64 P_laws_szSlotS R_laws_szSlotS x = F_laws_szSlotS x := by kernel_rfl
theorem s_laws_szSlotS : CallsOk Tryz.prog 64 C_laws_szSlotS :=
  fn_calls (L := []) hT g_laws_szSlotS Tryz.f64 (by kernel_rfl) (by kernel_rfl) (by kernel_rfl) (plain_ok (by kernel_rfl)) r_laws_szSlotS
/-! laws.szPolicy -/
abbrev P_laws_szPolicy : List PK := [.val Y26, .val YI]
abbrev R_laws_szPolicy : List VK := [.s (.dat YI)]
def F_laws_szPolicy (x : denP P_laws_szPolicy) : Option (denV R_laws_szPolicy × denQ P_laws_szPolicy) :=
  (F_laws_szInt64SS (x.1.1, x.2.1, ())).bind fun r1 =>
  if (ltI r1.1.1 (0 : Int)) then
    some (((-1 : Int), ()), ())
  else
    (F_laws_szLaneS (x.1.2.1, r1.1.1, ())).bind fun r2 =>
    if (ltI r2.1.1 (0 : Int)) then
      some (((-1 : Int), ()), ())
    else
      (F_laws_szBellS (x.1.2.2.1, r2.1.1, ())).bind fun r3 =>
      if (ltI r3.1.1 (0 : Int)) then
        some (((-1 : Int), ()), ())
      else
        (F_laws_szSlotS (x.1.2.2.2.1, r3.1.1, ())).bind fun r4 =>
        if (ltI r4.1.1 (0 : Int)) then
          some (((-1 : Int), ()), ())
        else
          some ((r4.1.1, ()), ())
abbrev C_laws_szPolicy : Con := ⟨P_laws_szPolicy, R_laws_szPolicy, F_laws_szPolicy, false⟩
abbrev G_laws_szPolicy : Env := [(19, C_laws_szInt64SS), (62, C_laws_szLaneS), (63, C_laws_szBellS), (64, C_laws_szSlotS)]
theorem g_laws_szPolicy : EnvOk Tryz.prog G_laws_szPolicy := (env_cons s_laws_szInt64SS (env_cons s_laws_szLaneS (env_cons s_laws_szBellS (env_cons s_laws_szSlotS env_nil))))
theorem r_laws_szPolicy (x) : runFn T G_laws_szPolicy [] Tryz.f18 P_laws_szPolicy R_laws_szPolicy x = F_laws_szPolicy x := by kernel_rfl
theorem s_laws_szPolicy : CallsOk Tryz.prog 18 C_laws_szPolicy :=
  fn_calls (L := []) hT g_laws_szPolicy Tryz.f18 (by kernel_rfl) (by kernel_rfl) (by kernel_rfl) (plain_ok (by kernel_rfl)) r_laws_szPolicy
/-! laws.szHart -/
abbrev P_laws_szHart : List PK := [.val Y68, .val YI]
abbrev R_laws_szHart : List VK := [.s (.dat YI)]
def F_laws_szHart (x : denP P_laws_szHart) : Option (denV R_laws_szHart × denQ P_laws_szHart) :=
  (F_laws_szInt64S (x.1.1, x.2.1, ())).bind fun r1 =>
  if (ltI r1.1.1 (0 : Int)) then
    some (((-1 : Int), ()), ())
  else
    (F_laws_szInt64S (x.1.2.2.1, r1.1.1, ())).bind fun r2 =>
    if (ltI r2.1.1 (0 : Int)) then
      some (((-1 : Int), ()), ())
    else
      (F_laws_szInt64S (x.1.2.2.2.2.2.2.2.1, r2.1.1, ())).bind fun r3 =>
      if (ltI r3.1.1 (0 : Int)) then
        some (((-1 : Int), ()), ())
      else
        (F_laws_szInt64S (x.1.2.2.2.2.2.2.2.2.1, r3.1.1, ())).bind fun r4 =>
        if (ltI r4.1.1 (0 : Int)) then
          some (((-1 : Int), ()), ())
        else
          some ((r4.1.1, ()), ())
abbrev C_laws_szHart : Con := ⟨P_laws_szHart, R_laws_szHart, F_laws_szHart, false⟩
abbrev G_laws_szHart : Env := [(49, C_laws_szInt64S)]
theorem g_laws_szHart : EnvOk Tryz.prog G_laws_szHart := (env_cons s_laws_szInt64S env_nil)
theorem r_laws_szHart (x) : runFn T G_laws_szHart [] Tryz.f84 P_laws_szHart R_laws_szHart x = F_laws_szHart x := by kernel_rfl
theorem s_laws_szHart : CallsOk Tryz.prog 84 C_laws_szHart :=
  fn_calls (L := []) hT g_laws_szHart Tryz.f84 (by kernel_rfl) (by kernel_rfl) (by kernel_rfl) (plain_ok (by kernel_rfl)) r_laws_szHart
/-! laws.szHartS -/
abbrev P_laws_szHartS : List PK := [.val Y29, .val YI]
abbrev R_laws_szHartS : List VK := [.s (.dat YI)]
abbrev i_laws_szHartS_5 : Shp := { slots := [(0, .s (.dat Y29)), (1, .s (.dat YI)), (5, .s (.dat YI))], boxes := [], rows := [] }
abbrev o_laws_szHartS_5 : List (Ex × Shp) := [(.exit 0, { slots := [(1, .s (.dat YI))], boxes := [], rows := [] }), (.ret, { slots := [(4, .s (.dat YI))], boxes := [], rows := [] })]
def l_laws_szHartS_5 (rec : i_laws_szHartS_5.den → Option (denO o_laws_szHartS_5)) (u5 : i_laws_szHartS_5.den) : Option (denO o_laws_szHartS_5) :=
  let v5 := ((u5.1.1.length : Nat) : Int)
  if (ltI u5.1.2.2.1 v5) then
    if 0 ≤ u5.1.2.2.1 then
      ((u5.1.1)[(u5.1.2.2.1).toNat]?).bind fun y6 =>
      (F_laws_szHart (y6, u5.1.2.1, ())).bind fun r7 =>
      if (ltI r7.1.1 (0 : Int)) then
        some (.inr (.inl (((-1 : Int), ()), ((), ()))))
      else
        let v8 := (IntKind.i64.wrap (u5.1.2.2.1 + (1 : Int)))
        rec ((u5.1.1, (r7.1.1, (v8, ()))), ((), ()))
    else none
  else
    some (.inl ((u5.1.2.1, ()), ((), ())))
def L_laws_szHartS_5 (x : i_laws_szHartS_5.den) : Option (denO o_laws_szHartS_5) := iterF l_laws_szHartS_5 lots x
def F_laws_szHartS (x : denP P_laws_szHartS) : Option (denV R_laws_szHartS × denQ P_laws_szHartS) :=
  let v1 := ((x.1.length : Nat) : Int)
  let v2 := (IntKind.i64.wrap (x.2.1 - v1))
  if (ltI v2 (0 : Int)) then
    some (((-1 : Int), ()), ())
  else
    (L_laws_szHartS_5 ((x.1, (v2, ((0 : Int), ()))), ((), ()))).bind fun z9 =>
    match z9 with
    | .inl x10 =>
      some ((x10.1.1, ()), ())
    | .inr z9_ =>
      match z9_ with
      | .inl x11 =>
        some ((x11.1.1, ()), ())
      | .inr z9__ =>
        none
abbrev C_laws_szHartS : Con := ⟨P_laws_szHartS, R_laws_szHartS, F_laws_szHartS, false⟩
abbrev G_laws_szHartS : Env := [(84, C_laws_szHart)]
theorem g_laws_szHartS : EnvOk Tryz.prog G_laws_szHartS := (env_cons s_laws_szHart env_nil)
abbrev c_laws_szHartS_5 : Cut := ⟨i_laws_szHartS_5, o_laws_szHartS_5, fun x => iterF l_laws_szHartS_5 lots x⟩
theorem t_laws_szHartS_5 (rec x) : run T G_laws_szHartS [] (nav Tryz.f50 [1, 1, 1, 0, 1, 0, 0]) (mk 27 i_laws_szHartS_5 x) (loopK i_laws_szHartS_5 o_laws_szHartS_5 rec) = l_laws_szHartS_5 rec x := by kernel_rfl
theorem k_laws_szHartS_5 : CutOk Tryz.prog 27 (.loop (nav Tryz.f50 [1, 1, 1, 0, 1, 0, 0])) c_laws_szHartS_5 :=
  loop_cut (L := []) hT g_laws_szHartS t_laws_szHartS_5 (plain_ok (by kernel_rfl)) _
theorem r_laws_szHartS (x) : runFn T G_laws_szHartS [(5, c_laws_szHartS_5)] Tryz.f50 P_laws_szHartS R_laws_szHartS x = F_laws_szHartS x := by kernel_rfl
theorem s_laws_szHartS : CallsOk Tryz.prog 50 C_laws_szHartS :=
  fn_calls (L := [(5, c_laws_szHartS_5)]) hT g_laws_szHartS Tryz.f50 (by kernel_rfl) (by kernel_rfl) (by kernel_rfl) (seq_ok (plain_ok (by kernel_rfl)) (seq_ok (plain_ok (by kernel_rfl)) (seq_ok (plain_ok (by kernel_rfl)) (seq_ok (seq_ok (plain_ok (by kernel_rfl)) (block_ok (by kernel_rfl) (loop_ok (by kernel_rfl) k_laws_szHartS_5))) (plain_ok (by kernel_rfl)))))) r_laws_szHartS
/-! laws.szHost -/
abbrev P_laws_szHost : List PK := [.val Y30, .val YI]
abbrev R_laws_szHost : List VK := [.s (.dat YI)]
def F_laws_szHost (x : denP P_laws_szHost) : Option (denV R_laws_szHost × denQ P_laws_szHost) :=
  (F_laws_szPolicy (x.1.1, x.2.1, ())).bind fun r1 =>
  if (ltI r1.1.1 (0 : Int)) then
    some (((-1 : Int), ()), ())
  else
    (F_laws_szInt64S (x.1.2.1, r1.1.1, ())).bind fun r2 =>
    if (ltI r2.1.1 (0 : Int)) then
      some (((-1 : Int), ()), ())
    else
      (F_laws_szHartS (x.1.2.2.1, r2.1.1, ())).bind fun r3 =>
      if (ltI r3.1.1 (0 : Int)) then
        some (((-1 : Int), ()), ())
      else
        some ((r3.1.1, ()), ())
abbrev C_laws_szHost : Con := ⟨P_laws_szHost, R_laws_szHost, F_laws_szHost, false⟩
abbrev G_laws_szHost : Env := [(18, C_laws_szPolicy), (49, C_laws_szInt64S), (50, C_laws_szHartS)]
theorem g_laws_szHost : EnvOk Tryz.prog G_laws_szHost := (env_cons s_laws_szPolicy (env_cons s_laws_szInt64S (env_cons s_laws_szHartS env_nil)))
theorem r_laws_szHost (x) : runFn T G_laws_szHost [] Tryz.f9 P_laws_szHost R_laws_szHost x = F_laws_szHost x := by kernel_rfl
theorem s_laws_szHost : CallsOk Tryz.prog 9 C_laws_szHost :=
  fn_calls (L := []) hT g_laws_szHost Tryz.f9 (by kernel_rfl) (by kernel_rfl) (by kernel_rfl) (plain_ok (by kernel_rfl)) r_laws_szHost
/-! laws.toInt64S -/
abbrev P_laws_toInt64S : List PK := [.val Y28]
abbrev R_laws_toInt64S : List VK := [.s (.own 2 YI)]
abbrev i_laws_toInt64S_3 : Shp := { slots := [(0, .s (.dat Y28)), (3, .s (.own 2 YI)), (4, .s (.dat YI))], boxes := [], rows := [] }
abbrev o_laws_toInt64S_3 : List (Ex × Shp) := [(.exit 0, { slots := [(3, .s (.own 2 YI))], boxes := [], rows := [] })]
def l_laws_toInt64S_3 (rec : i_laws_toInt64S_3.den → Option (denO o_laws_toInt64S_3)) (u3 : i_laws_toInt64S_3.den) : Option (denO o_laws_toInt64S_3) :=
  let v4 := ((u3.1.1.length : Nat) : Int)
  if (ltI u3.1.2.2.1 v4) then
    if 0 ≤ u3.1.2.2.1 then
      ((u3.1.1)[(u3.1.2.2.1).toNat]?).bind fun y5 =>
      if 0 ≤ u3.1.2.2.1 ∧ u3.1.2.2.1 < ((u3.1.2.1.length : Nat) : Int) then
        ((u3.1.2.1)[(u3.1.2.2.1).toNat]?).bind fun y6 =>
        let v7 := (u3.1.2.1.set (u3.1.2.2.1).toNat y5)
        let v8 := (IntKind.i64.wrap (u3.1.2.2.1 + (1 : Int)))
        rec ((u3.1.1, (v7, (v8, ()))), ((), ()))
      else none
    else none
  else
    some (.inl ((u3.1.2.1, ()), ((), ())))
def L_laws_toInt64S_3 (x : i_laws_toInt64S_3.den) : Option (denO o_laws_toInt64S_3) := iterF l_laws_toInt64S_3 lots x
def F_laws_toInt64S (x : denP P_laws_toInt64S) : Option (denV R_laws_toInt64S × denQ P_laws_toInt64S) :=
  let v1 := ((x.1.length : Nat) : Int)
  if v1 = v1 ∧ 0 ≤ v1 ∧ v1 * 8 ≤ 140737488355328 ∧ v1 ≤ 9223372036854775807 then
    (L_laws_toInt64S_3 ((x.1, ((List.replicate (v1).toNat (zeroD YI)), ((0 : Int), ()))), ((), ()))).bind fun z9 =>
    match z9 with
    | .inl x10 =>
      some ((x10.1.1, ()), ())
    | .inr z9_ =>
      none
  else none
abbrev C_laws_toInt64S : Con := ⟨P_laws_toInt64S, R_laws_toInt64S, F_laws_toInt64S, false⟩
abbrev G_laws_toInt64S : Env := []
theorem g_laws_toInt64S : EnvOk Tryz.prog G_laws_toInt64S := env_nil
abbrev c_laws_toInt64S_3 : Cut := ⟨i_laws_toInt64S_3, o_laws_toInt64S_3, fun x => iterF l_laws_toInt64S_3 lots x⟩
theorem t_laws_toInt64S_3 (rec x) : run T G_laws_toInt64S [] (nav Tryz.f32 [1, 1, 0, 1, 0, 0]) (mk 22 i_laws_toInt64S_3 x) (loopK i_laws_toInt64S_3 o_laws_toInt64S_3 rec) = l_laws_toInt64S_3 rec x := by kernel_rfl
theorem k_laws_toInt64S_3 : CutOk Tryz.prog 22 (.loop (nav Tryz.f32 [1, 1, 0, 1, 0, 0])) c_laws_toInt64S_3 :=
  loop_cut (L := []) hT g_laws_toInt64S t_laws_toInt64S_3 (plain_ok (by kernel_rfl)) _
theorem r_laws_toInt64S (x) : runFn T G_laws_toInt64S [(3, c_laws_toInt64S_3)] Tryz.f32 P_laws_toInt64S R_laws_toInt64S x = F_laws_toInt64S x := by kernel_rfl
theorem s_laws_toInt64S : CallsOk Tryz.prog 32 C_laws_toInt64S :=
  fn_calls (L := [(3, c_laws_toInt64S_3)]) hT g_laws_toInt64S Tryz.f32 (by kernel_rfl) (by kernel_rfl) (by kernel_rfl) (seq_ok (plain_ok (by kernel_rfl)) (seq_ok (plain_ok (by kernel_rfl)) (seq_ok (seq_ok (plain_ok (by kernel_rfl)) (block_ok (by kernel_rfl) (loop_ok (by kernel_rfl) k_laws_toInt64S_3))) (plain_ok (by kernel_rfl))))) r_laws_toInt64S
/-! laws.toInt64SS -/
abbrev P_laws_toInt64SS : List PK := [.val Y22]
abbrev R_laws_toInt64SS : List VK := [.s (.own 3000028 Y28)]
abbrev i_laws_toInt64SS_3 : Shp := { slots := [(0, .s (.dat Y22)), (3, .s (.own 3000028 Y28)), (4, .s (.dat YI))], boxes := [], rows := [] }
abbrev o_laws_toInt64SS_3 : List (Ex × Shp) := [(.exit 0, { slots := [(3, .s (.own 3000028 Y28))], boxes := [], rows := [] })]
def l_laws_toInt64SS_3 (rec : i_laws_toInt64SS_3.den → Option (denO o_laws_toInt64SS_3)) (u3 : i_laws_toInt64SS_3.den) : Option (denO o_laws_toInt64SS_3) :=
  let v5 := ((u3.1.1.length : Nat) : Int)
  if (ltI u3.1.2.2.1 v5) then
    if 0 ≤ u3.1.2.2.1 then
      ((u3.1.1)[(u3.1.2.2.1).toNat]?).bind fun y6 =>
      (F_laws_toInt64S (y6, ())).bind fun r7 =>
      if 0 ≤ u3.1.2.2.1 ∧ u3.1.2.2.1 < ((u3.1.2.1.length : Nat) : Int) then
        ((u3.1.2.1)[(u3.1.2.2.1).toNat]?).bind fun y8 =>
        let v9 := (u3.1.2.1.set (u3.1.2.2.1).toNat r7.1.1)
        let v10 := (IntKind.i64.wrap (u3.1.2.2.1 + (1 : Int)))
        rec ((u3.1.1, (v9, (v10, ()))), ((), ()))
      else none
    else none
  else
    some (.inl ((u3.1.2.1, ()), ((), ())))
def L_laws_toInt64SS_3 (x : i_laws_toInt64SS_3.den) : Option (denO o_laws_toInt64SS_3) := iterF l_laws_toInt64SS_3 lots x
def F_laws_toInt64SS (x : denP P_laws_toInt64SS) : Option (denV R_laws_toInt64SS × denQ P_laws_toInt64SS) :=
  let v1 := ((x.1.length : Nat) : Int)
  if v1 = v1 ∧ 0 ≤ v1 ∧ v1 * 24 ≤ 140737488355328 ∧ v1 ≤ 9223372036854775807 then
    (L_laws_toInt64SS_3 ((x.1, ((List.replicate (v1).toNat (zeroD Y28)), ((0 : Int), ()))), ((), ()))).bind fun z11 =>
    match z11 with
    | .inl x12 =>
      some ((x12.1.1, ()), ())
    | .inr z11_ =>
      none
  else none
abbrev C_laws_toInt64SS : Con := ⟨P_laws_toInt64SS, R_laws_toInt64SS, F_laws_toInt64SS, false⟩
abbrev G_laws_toInt64SS : Env := [(32, C_laws_toInt64S)]
theorem g_laws_toInt64SS : EnvOk Tryz.prog G_laws_toInt64SS := (env_cons s_laws_toInt64S env_nil)
abbrev c_laws_toInt64SS_3 : Cut := ⟨i_laws_toInt64SS_3, o_laws_toInt64SS_3, fun x => iterF l_laws_toInt64SS_3 lots x⟩
theorem t_laws_toInt64SS_3 (rec x) : run T G_laws_toInt64SS [] (nav Tryz.f22 [1, 1, 0, 1, 0, 0]) (mk 23 i_laws_toInt64SS_3 x) (loopK i_laws_toInt64SS_3 o_laws_toInt64SS_3 rec) = l_laws_toInt64SS_3 rec x := by kernel_rfl
theorem k_laws_toInt64SS_3 : CutOk Tryz.prog 23 (.loop (nav Tryz.f22 [1, 1, 0, 1, 0, 0])) c_laws_toInt64SS_3 :=
  loop_cut (L := []) hT g_laws_toInt64SS t_laws_toInt64SS_3 (plain_ok (by kernel_rfl)) _
theorem r_laws_toInt64SS (x) : runFn T G_laws_toInt64SS [(3, c_laws_toInt64SS_3)] Tryz.f22 P_laws_toInt64SS R_laws_toInt64SS x = F_laws_toInt64SS x := by kernel_rfl
theorem s_laws_toInt64SS : CallsOk Tryz.prog 22 C_laws_toInt64SS :=
  fn_calls (L := [(3, c_laws_toInt64SS_3)]) hT g_laws_toInt64SS Tryz.f22 (by kernel_rfl) (by kernel_rfl) (by kernel_rfl) (seq_ok (plain_ok (by kernel_rfl)) (seq_ok (plain_ok (by kernel_rfl)) (seq_ok (seq_ok (plain_ok (by kernel_rfl)) (block_ok (by kernel_rfl) (loop_ok (by kernel_rfl) k_laws_toInt64SS_3))) (plain_ok (by kernel_rfl))))) r_laws_toInt64SS
/-! laws.toLane -/
abbrev P_laws_toLane : List PK := [.val Y165]
abbrev R_laws_toLane : List VK := [.s (.dat Y165)]
def F_laws_toLane (x : denP P_laws_toLane) : Option (denV R_laws_toLane × denQ P_laws_toLane) :=
  some ((x.1, ()), ())
abbrev C_laws_toLane : Con := ⟨P_laws_toLane, R_laws_toLane, F_laws_toLane, false⟩
abbrev G_laws_toLane : Env := []
theorem g_laws_toLane : EnvOk Tryz.prog G_laws_toLane := env_nil
theorem r_laws_toLane (x) : runFn T G_laws_toLane [] Tryz.f123 P_laws_toLane R_laws_toLane x = F_laws_toLane x := by kernel_rfl
theorem s_laws_toLane : CallsOk Tryz.prog 123 C_laws_toLane :=
  fn_calls (L := []) hT g_laws_toLane Tryz.f123 (by kernel_rfl) (by kernel_rfl) (by kernel_rfl) (plain_ok (by kernel_rfl)) r_laws_toLane
/-! laws.toLaneS -/
abbrev P_laws_toLaneS : List PK := [.val Y23]
abbrev R_laws_toLaneS : List VK := [.s (.own 166 Y165)]
abbrev i_laws_toLaneS_3 : Shp := { slots := [(0, .s (.dat Y23)), (3, .s (.own 166 Y165)), (4, .s (.dat YI))], boxes := [], rows := [] }
abbrev o_laws_toLaneS_3 : List (Ex × Shp) := [(.exit 0, { slots := [(3, .s (.own 166 Y165))], boxes := [], rows := [] })]
def l_laws_toLaneS_3 (rec : i_laws_toLaneS_3.den → Option (denO o_laws_toLaneS_3)) (u3 : i_laws_toLaneS_3.den) : Option (denO o_laws_toLaneS_3) :=
  let v5 := ((u3.1.1.length : Nat) : Int)
  if (ltI u3.1.2.2.1 v5) then
    if 0 ≤ u3.1.2.2.1 then
      ((u3.1.1)[(u3.1.2.2.1).toNat]?).bind fun y6 =>
      (F_laws_toLane (y6, ())).bind fun r7 =>
      if 0 ≤ u3.1.2.2.1 ∧ u3.1.2.2.1 < ((u3.1.2.1.length : Nat) : Int) then
        ((u3.1.2.1)[(u3.1.2.2.1).toNat]?).bind fun y8 =>
        let v9 := (u3.1.2.1.set (u3.1.2.2.1).toNat r7.1.1)
        let v10 := (IntKind.i64.wrap (u3.1.2.2.1 + (1 : Int)))
        rec ((u3.1.1, (v9, (v10, ()))), ((), ()))
      else none
    else none
  else
    some (.inl ((u3.1.2.1, ()), ((), ())))
def L_laws_toLaneS_3 (x : i_laws_toLaneS_3.den) : Option (denO o_laws_toLaneS_3) := iterF l_laws_toLaneS_3 lots x
def F_laws_toLaneS (x : denP P_laws_toLaneS) : Option (denV R_laws_toLaneS × denQ P_laws_toLaneS) :=
  let v1 := ((x.1.length : Nat) : Int)
  if v1 = v1 ∧ 0 ≤ v1 ∧ v1 * 40 ≤ 140737488355328 ∧ v1 ≤ 9223372036854775807 then
    (L_laws_toLaneS_3 ((x.1, ((List.replicate (v1).toNat (zeroD Y165)), ((0 : Int), ()))), ((), ()))).bind fun z11 =>
    match z11 with
    | .inl x12 =>
      some ((x12.1.1, ()), ())
    | .inr z11_ =>
      none
  else none
abbrev C_laws_toLaneS : Con := ⟨P_laws_toLaneS, R_laws_toLaneS, F_laws_toLaneS, false⟩
abbrev G_laws_toLaneS : Env := [(123, C_laws_toLane)]
theorem g_laws_toLaneS : EnvOk Tryz.prog G_laws_toLaneS := (env_cons s_laws_toLane env_nil)
abbrev c_laws_toLaneS_3 : Cut := ⟨i_laws_toLaneS_3, o_laws_toLaneS_3, fun x => iterF l_laws_toLaneS_3 lots x⟩
theorem t_laws_toLaneS_3 (rec x) : run T G_laws_toLaneS [] (nav Tryz.f68 [1, 1, 0, 1, 0, 0]) (mk 23 i_laws_toLaneS_3 x) (loopK i_laws_toLaneS_3 o_laws_toLaneS_3 rec) = l_laws_toLaneS_3 rec x := by kernel_rfl
theorem k_laws_toLaneS_3 : CutOk Tryz.prog 23 (.loop (nav Tryz.f68 [1, 1, 0, 1, 0, 0])) c_laws_toLaneS_3 :=
  loop_cut (L := []) hT g_laws_toLaneS t_laws_toLaneS_3 (plain_ok (by kernel_rfl)) _
theorem r_laws_toLaneS (x) : runFn T G_laws_toLaneS [(3, c_laws_toLaneS_3)] Tryz.f68 P_laws_toLaneS R_laws_toLaneS x = F_laws_toLaneS x := by kernel_rfl
theorem s_laws_toLaneS : CallsOk Tryz.prog 68 C_laws_toLaneS :=
  fn_calls (L := [(3, c_laws_toLaneS_3)]) hT g_laws_toLaneS Tryz.f68 (by kernel_rfl) (by kernel_rfl) (by kernel_rfl) (seq_ok (plain_ok (by kernel_rfl)) (seq_ok (plain_ok (by kernel_rfl)) (seq_ok (seq_ok (plain_ok (by kernel_rfl)) (block_ok (by kernel_rfl) (loop_ok (by kernel_rfl) k_laws_toLaneS_3))) (plain_ok (by kernel_rfl))))) r_laws_toLaneS
/-! laws.toBell -/
abbrev P_laws_toBell : List PK := [.val Y99]
abbrev R_laws_toBell : List VK := [.s (.dat Y99)]
def F_laws_toBell (x : denP P_laws_toBell) : Option (denV R_laws_toBell × denQ P_laws_toBell) :=
  some ((x.1, ()), ())
abbrev C_laws_toBell : Con := ⟨P_laws_toBell, R_laws_toBell, F_laws_toBell, false⟩
abbrev G_laws_toBell : Env := []
theorem g_laws_toBell : EnvOk Tryz.prog G_laws_toBell := env_nil
theorem r_laws_toBell (x) : runFn T G_laws_toBell [] Tryz.f124 P_laws_toBell R_laws_toBell x = F_laws_toBell x := by kernel_rfl
theorem s_laws_toBell : CallsOk Tryz.prog 124 C_laws_toBell :=
  fn_calls (L := []) hT g_laws_toBell Tryz.f124 (by kernel_rfl) (by kernel_rfl) (by kernel_rfl) (plain_ok (by kernel_rfl)) r_laws_toBell
/-! laws.toBellS -/
abbrev P_laws_toBellS : List PK := [.val Y24]
abbrev R_laws_toBellS : List VK := [.s (.own 170 Y99)]
abbrev i_laws_toBellS_3 : Shp := { slots := [(0, .s (.dat Y24)), (3, .s (.own 170 Y99)), (4, .s (.dat YI))], boxes := [], rows := [] }
abbrev o_laws_toBellS_3 : List (Ex × Shp) := [(.exit 0, { slots := [(3, .s (.own 170 Y99))], boxes := [], rows := [] })]
def l_laws_toBellS_3 (rec : i_laws_toBellS_3.den → Option (denO o_laws_toBellS_3)) (u3 : i_laws_toBellS_3.den) : Option (denO o_laws_toBellS_3) :=
  let v5 := ((u3.1.1.length : Nat) : Int)
  if (ltI u3.1.2.2.1 v5) then
    if 0 ≤ u3.1.2.2.1 then
      ((u3.1.1)[(u3.1.2.2.1).toNat]?).bind fun y6 =>
      (F_laws_toBell (y6, ())).bind fun r7 =>
      if 0 ≤ u3.1.2.2.1 ∧ u3.1.2.2.1 < ((u3.1.2.1.length : Nat) : Int) then
        ((u3.1.2.1)[(u3.1.2.2.1).toNat]?).bind fun y8 =>
        let v9 := (u3.1.2.1.set (u3.1.2.2.1).toNat r7.1.1)
        let v10 := (IntKind.i64.wrap (u3.1.2.2.1 + (1 : Int)))
        rec ((u3.1.1, (v9, (v10, ()))), ((), ()))
      else none
    else none
  else
    some (.inl ((u3.1.2.1, ()), ((), ())))
def L_laws_toBellS_3 (x : i_laws_toBellS_3.den) : Option (denO o_laws_toBellS_3) := iterF l_laws_toBellS_3 lots x
def F_laws_toBellS (x : denP P_laws_toBellS) : Option (denV R_laws_toBellS × denQ P_laws_toBellS) :=
  let v1 := ((x.1.length : Nat) : Int)
  if v1 = v1 ∧ 0 ≤ v1 ∧ v1 * 16 ≤ 140737488355328 ∧ v1 ≤ 9223372036854775807 then
    (L_laws_toBellS_3 ((x.1, ((List.replicate (v1).toNat (zeroD Y99)), ((0 : Int), ()))), ((), ()))).bind fun z11 =>
    match z11 with
    | .inl x12 =>
      some ((x12.1.1, ()), ())
    | .inr z11_ =>
      none
  else none
abbrev C_laws_toBellS : Con := ⟨P_laws_toBellS, R_laws_toBellS, F_laws_toBellS, false⟩
abbrev G_laws_toBellS : Env := [(124, C_laws_toBell)]
theorem g_laws_toBellS : EnvOk Tryz.prog G_laws_toBellS := (env_cons s_laws_toBell env_nil)
abbrev c_laws_toBellS_3 : Cut := ⟨i_laws_toBellS_3, o_laws_toBellS_3, fun x => iterF l_laws_toBellS_3 lots x⟩
theorem t_laws_toBellS_3 (rec x) : run T G_laws_toBellS [] (nav Tryz.f69 [1, 1, 0, 1, 0, 0]) (mk 23 i_laws_toBellS_3 x) (loopK i_laws_toBellS_3 o_laws_toBellS_3 rec) = l_laws_toBellS_3 rec x := by kernel_rfl
theorem k_laws_toBellS_3 : CutOk Tryz.prog 23 (.loop (nav Tryz.f69 [1, 1, 0, 1, 0, 0])) c_laws_toBellS_3 :=
  loop_cut (L := []) hT g_laws_toBellS t_laws_toBellS_3 (plain_ok (by kernel_rfl)) _
theorem r_laws_toBellS (x) : runFn T G_laws_toBellS [(3, c_laws_toBellS_3)] Tryz.f69 P_laws_toBellS R_laws_toBellS x = F_laws_toBellS x := by kernel_rfl
theorem s_laws_toBellS : CallsOk Tryz.prog 69 C_laws_toBellS :=
  fn_calls (L := [(3, c_laws_toBellS_3)]) hT g_laws_toBellS Tryz.f69 (by kernel_rfl) (by kernel_rfl) (by kernel_rfl) (seq_ok (plain_ok (by kernel_rfl)) (seq_ok (plain_ok (by kernel_rfl)) (seq_ok (seq_ok (plain_ok (by kernel_rfl)) (block_ok (by kernel_rfl) (loop_ok (by kernel_rfl) k_laws_toBellS_3))) (plain_ok (by kernel_rfl))))) r_laws_toBellS
/-! laws.toSlot -/
abbrev P_laws_toSlot : List PK := [.val Y99]
abbrev R_laws_toSlot : List VK := [.s (.dat Y99)]
def F_laws_toSlot (x : denP P_laws_toSlot) : Option (denV R_laws_toSlot × denQ P_laws_toSlot) :=
  some ((x.1, ()), ())
abbrev C_laws_toSlot : Con := ⟨P_laws_toSlot, R_laws_toSlot, F_laws_toSlot, false⟩
abbrev G_laws_toSlot : Env := []
theorem g_laws_toSlot : EnvOk Tryz.prog G_laws_toSlot := env_nil
theorem r_laws_toSlot (x) : runFn T G_laws_toSlot [] Tryz.f125 P_laws_toSlot R_laws_toSlot x = F_laws_toSlot x := by kernel_rfl
theorem s_laws_toSlot : CallsOk Tryz.prog 125 C_laws_toSlot :=
  fn_calls (L := []) hT g_laws_toSlot Tryz.f125 (by kernel_rfl) (by kernel_rfl) (by kernel_rfl) (plain_ok (by kernel_rfl)) r_laws_toSlot
/-! laws.toSlotS -/
abbrev P_laws_toSlotS : List PK := [.val Y24]
abbrev R_laws_toSlotS : List VK := [.s (.own 100 Y99)]
abbrev i_laws_toSlotS_3 : Shp := { slots := [(0, .s (.dat Y24)), (3, .s (.own 100 Y99)), (4, .s (.dat YI))], boxes := [], rows := [] }
abbrev o_laws_toSlotS_3 : List (Ex × Shp) := [(.exit 0, { slots := [(3, .s (.own 100 Y99))], boxes := [], rows := [] })]
def l_laws_toSlotS_3 (rec : i_laws_toSlotS_3.den → Option (denO o_laws_toSlotS_3)) (u3 : i_laws_toSlotS_3.den) : Option (denO o_laws_toSlotS_3) :=
  let v5 := ((u3.1.1.length : Nat) : Int)
  if (ltI u3.1.2.2.1 v5) then
    if 0 ≤ u3.1.2.2.1 then
      ((u3.1.1)[(u3.1.2.2.1).toNat]?).bind fun y6 =>
      (F_laws_toSlot (y6, ())).bind fun r7 =>
      if 0 ≤ u3.1.2.2.1 ∧ u3.1.2.2.1 < ((u3.1.2.1.length : Nat) : Int) then
        ((u3.1.2.1)[(u3.1.2.2.1).toNat]?).bind fun y8 =>
        let v9 := (u3.1.2.1.set (u3.1.2.2.1).toNat r7.1.1)
        let v10 := (IntKind.i64.wrap (u3.1.2.2.1 + (1 : Int)))
        rec ((u3.1.1, (v9, (v10, ()))), ((), ()))
      else none
    else none
  else
    some (.inl ((u3.1.2.1, ()), ((), ())))
def L_laws_toSlotS_3 (x : i_laws_toSlotS_3.den) : Option (denO o_laws_toSlotS_3) := iterF l_laws_toSlotS_3 lots x
def F_laws_toSlotS (x : denP P_laws_toSlotS) : Option (denV R_laws_toSlotS × denQ P_laws_toSlotS) :=
  let v1 := ((x.1.length : Nat) : Int)
  if v1 = v1 ∧ 0 ≤ v1 ∧ v1 * 16 ≤ 140737488355328 ∧ v1 ≤ 9223372036854775807 then
    (L_laws_toSlotS_3 ((x.1, ((List.replicate (v1).toNat (zeroD Y99)), ((0 : Int), ()))), ((), ()))).bind fun z11 =>
    match z11 with
    | .inl x12 =>
      some ((x12.1.1, ()), ())
    | .inr z11_ =>
      none
  else none
abbrev C_laws_toSlotS : Con := ⟨P_laws_toSlotS, R_laws_toSlotS, F_laws_toSlotS, false⟩
abbrev G_laws_toSlotS : Env := [(125, C_laws_toSlot)]
theorem g_laws_toSlotS : EnvOk Tryz.prog G_laws_toSlotS := (env_cons s_laws_toSlot env_nil)
abbrev c_laws_toSlotS_3 : Cut := ⟨i_laws_toSlotS_3, o_laws_toSlotS_3, fun x => iterF l_laws_toSlotS_3 lots x⟩
theorem t_laws_toSlotS_3 (rec x) : run T G_laws_toSlotS [] (nav Tryz.f70 [1, 1, 0, 1, 0, 0]) (mk 23 i_laws_toSlotS_3 x) (loopK i_laws_toSlotS_3 o_laws_toSlotS_3 rec) = l_laws_toSlotS_3 rec x := by kernel_rfl
theorem k_laws_toSlotS_3 : CutOk Tryz.prog 23 (.loop (nav Tryz.f70 [1, 1, 0, 1, 0, 0])) c_laws_toSlotS_3 :=
  loop_cut (L := []) hT g_laws_toSlotS t_laws_toSlotS_3 (plain_ok (by kernel_rfl)) _
theorem r_laws_toSlotS (x) : runFn T G_laws_toSlotS [(3, c_laws_toSlotS_3)] Tryz.f70 P_laws_toSlotS R_laws_toSlotS x = F_laws_toSlotS x := by kernel_rfl
theorem s_laws_toSlotS : CallsOk Tryz.prog 70 C_laws_toSlotS :=
  fn_calls (L := [(3, c_laws_toSlotS_3)]) hT g_laws_toSlotS Tryz.f70 (by kernel_rfl) (by kernel_rfl) (by kernel_rfl) (seq_ok (plain_ok (by kernel_rfl)) (seq_ok (plain_ok (by kernel_rfl)) (seq_ok (seq_ok (plain_ok (by kernel_rfl)) (block_ok (by kernel_rfl) (loop_ok (by kernel_rfl) k_laws_toSlotS_3))) (plain_ok (by kernel_rfl))))) r_laws_toSlotS
/-! laws.toPolicy -/
abbrev P_laws_toPolicy : List PK := [.val Y26]
abbrev R_laws_toPolicy : List VK := [.g [.own 3000028 Y28, .own 166 Y165, .own 170 Y99, .own 100 Y99]]
def F_laws_toPolicy (x : denP P_laws_toPolicy) : Option (denV R_laws_toPolicy × denQ P_laws_toPolicy) :=
  (F_laws_toInt64SS (x.1.1, ())).bind fun r1 =>
  (F_laws_toLaneS (x.1.2.1, ())).bind fun r2 =>
  (F_laws_toBellS (x.1.2.2.1, ())).bind fun r3 =>
  (F_laws_toSlotS (x.1.2.2.2.1, ())).bind fun r4 =>
  some (((r1.1.1, (r2.1.1, (r3.1.1, (r4.1.1, ())))), ()), ())
abbrev C_laws_toPolicy : Con := ⟨P_laws_toPolicy, R_laws_toPolicy, F_laws_toPolicy, false⟩
abbrev G_laws_toPolicy : Env := [(22, C_laws_toInt64SS), (68, C_laws_toLaneS), (69, C_laws_toBellS), (70, C_laws_toSlotS)]
theorem g_laws_toPolicy : EnvOk Tryz.prog G_laws_toPolicy := (env_cons s_laws_toInt64SS (env_cons s_laws_toLaneS (env_cons s_laws_toBellS (env_cons s_laws_toSlotS env_nil))))
theorem r_laws_toPolicy (x) : runFn T G_laws_toPolicy [] Tryz.f21 P_laws_toPolicy R_laws_toPolicy x = F_laws_toPolicy x := by kernel_rfl
theorem s_laws_toPolicy : CallsOk Tryz.prog 21 C_laws_toPolicy :=
  fn_calls (L := []) hT g_laws_toPolicy Tryz.f21 (by kernel_rfl) (by kernel_rfl) (by kernel_rfl) (plain_ok (by kernel_rfl)) r_laws_toPolicy
/-! laws.toHart -/
abbrev P_laws_toHart : List PK := [.val Y68]
abbrev R_laws_toHart : List VK := [.g [.own 2 YI, .dat YI, .own 2 YI, .dat .bool, .dat .bool, .dat .bool, .dat YI, .own 2 YI, .own 2 YI]]
def F_laws_toHart (x : denP P_laws_toHart) : Option (denV R_laws_toHart × denQ P_laws_toHart) :=
  (F_laws_toInt64S (x.1.1, ())).bind fun r1 =>
  (F_laws_toInt64S (x.1.2.2.1, ())).bind fun r2 =>
  (F_laws_toInt64S (x.1.2.2.2.2.2.2.2.1, ())).bind fun r3 =>
  (F_laws_toInt64S (x.1.2.2.2.2.2.2.2.2.1, ())).bind fun r4 =>
  some (((r1.1.1, (x.1.2.1, (r2.1.1, (x.1.2.2.2.1, (x.1.2.2.2.2.1, (x.1.2.2.2.2.2.1, (x.1.2.2.2.2.2.2.1, (r3.1.1, (r4.1.1, ()))))))))), ()), ())
abbrev C_laws_toHart : Con := ⟨P_laws_toHart, R_laws_toHart, F_laws_toHart, false⟩
abbrev G_laws_toHart : Env := [(32, C_laws_toInt64S)]
theorem g_laws_toHart : EnvOk Tryz.prog G_laws_toHart := (env_cons s_laws_toInt64S env_nil)
theorem r_laws_toHart (x) : runFn T G_laws_toHart [] Tryz.f90 P_laws_toHart R_laws_toHart x = F_laws_toHart x := by kernel_rfl
theorem s_laws_toHart : CallsOk Tryz.prog 90 C_laws_toHart :=
  fn_calls (L := []) hT g_laws_toHart Tryz.f90 (by kernel_rfl) (by kernel_rfl) (by kernel_rfl) (plain_ok (by kernel_rfl)) r_laws_toHart
/-! laws.toHartS -/
abbrev P_laws_toHartS : List PK := [.val Y29]
abbrev R_laws_toHartS : List VK := [.s (.own 3000074 Y68)]
abbrev i_laws_toHartS_3 : Shp := { slots := [(0, .s (.dat Y29)), (3, .s (.own 3000074 Y68)), (4, .s (.dat YI))], boxes := [], rows := [] }
abbrev o_laws_toHartS_3 : List (Ex × Shp) := [(.exit 0, { slots := [(3, .s (.own 3000074 Y68))], boxes := [], rows := [] })]
def l_laws_toHartS_3 (rec : i_laws_toHartS_3.den → Option (denO o_laws_toHartS_3)) (u3 : i_laws_toHartS_3.den) : Option (denO o_laws_toHartS_3) :=
  let v5 := ((u3.1.1.length : Nat) : Int)
  if (ltI u3.1.2.2.1 v5) then
    if 0 ≤ u3.1.2.2.1 then
      ((u3.1.1)[(u3.1.2.2.1).toNat]?).bind fun y6 =>
      (F_laws_toHart (y6, ())).bind fun r7 =>
      if 0 ≤ u3.1.2.2.1 ∧ u3.1.2.2.1 < ((u3.1.2.1.length : Nat) : Int) then
        ((u3.1.2.1)[(u3.1.2.2.1).toNat]?).bind fun y8 =>
        let v9 := (u3.1.2.1.set (u3.1.2.2.1).toNat (r7.1.1.1, (r7.1.1.2.1, (r7.1.1.2.2.1, (r7.1.1.2.2.2.1, (r7.1.1.2.2.2.2.1, (r7.1.1.2.2.2.2.2.1, (r7.1.1.2.2.2.2.2.2.1, (r7.1.1.2.2.2.2.2.2.2.1, (r7.1.1.2.2.2.2.2.2.2.2.1, ()))))))))))
        let v10 := (IntKind.i64.wrap (u3.1.2.2.1 + (1 : Int)))
        rec ((u3.1.1, (v9, (v10, ()))), ((), ()))
      else none
    else none
  else
    some (.inl ((u3.1.2.1, ()), ((), ())))
def L_laws_toHartS_3 (x : i_laws_toHartS_3.den) : Option (denO o_laws_toHartS_3) := iterF l_laws_toHartS_3 lots x
def F_laws_toHartS (x : denP P_laws_toHartS) : Option (denV R_laws_toHartS × denQ P_laws_toHartS) :=
  let v1 := ((x.1.length : Nat) : Int)
  if v1 = v1 ∧ 0 ≤ v1 ∧ v1 * 120 ≤ 140737488355328 ∧ v1 ≤ 9223372036854775807 then
    (L_laws_toHartS_3 ((x.1, ((List.replicate (v1).toNat (zeroD Y68)), ((0 : Int), ()))), ((), ()))).bind fun z11 =>
    match z11 with
    | .inl x12 =>
      some ((x12.1.1, ()), ())
    | .inr z11_ =>
      none
  else none
abbrev C_laws_toHartS : Con := ⟨P_laws_toHartS, R_laws_toHartS, F_laws_toHartS, false⟩
abbrev G_laws_toHartS : Env := [(90, C_laws_toHart)]
theorem g_laws_toHartS : EnvOk Tryz.prog G_laws_toHartS := (env_cons s_laws_toHart env_nil)
abbrev c_laws_toHartS_3 : Cut := ⟨i_laws_toHartS_3, o_laws_toHartS_3, fun x => iterF l_laws_toHartS_3 lots x⟩
theorem t_laws_toHartS_3 (rec x) : run T G_laws_toHartS [] (nav Tryz.f54 [1, 1, 0, 1, 0, 0]) (mk 23 i_laws_toHartS_3 x) (loopK i_laws_toHartS_3 o_laws_toHartS_3 rec) = l_laws_toHartS_3 rec x := by kernel_rfl
theorem k_laws_toHartS_3 : CutOk Tryz.prog 23 (.loop (nav Tryz.f54 [1, 1, 0, 1, 0, 0])) c_laws_toHartS_3 :=
  loop_cut (L := []) hT g_laws_toHartS t_laws_toHartS_3 (plain_ok (by kernel_rfl)) _
theorem r_laws_toHartS (x) : runFn T G_laws_toHartS [(3, c_laws_toHartS_3)] Tryz.f54 P_laws_toHartS R_laws_toHartS x = F_laws_toHartS x := by kernel_rfl
theorem s_laws_toHartS : CallsOk Tryz.prog 54 C_laws_toHartS :=
  fn_calls (L := [(3, c_laws_toHartS_3)]) hT g_laws_toHartS Tryz.f54 (by kernel_rfl) (by kernel_rfl) (by kernel_rfl) (seq_ok (plain_ok (by kernel_rfl)) (seq_ok (plain_ok (by kernel_rfl)) (seq_ok (seq_ok (plain_ok (by kernel_rfl)) (block_ok (by kernel_rfl) (loop_ok (by kernel_rfl) k_laws_toHartS_3))) (plain_ok (by kernel_rfl))))) r_laws_toHartS
/-! laws.toHost -/
abbrev P_laws_toHost : List PK := [.val Y30]
abbrev R_laws_toHost : List VK := [.g [.own 3000028 Y28, .own 166 Y165, .own 170 Y99, .own 100 Y99, .own 2 YI, .own 3000074 Y68, .dat YI, .dat YI, .dat YI]]
def F_laws_toHost (x : denP P_laws_toHost) : Option (denV R_laws_toHost × denQ P_laws_toHost) :=
  (F_laws_toPolicy (x.1.1, ())).bind fun r1 =>
  (F_laws_toInt64S (x.1.2.1, ())).bind fun r2 =>
  (F_laws_toHartS (x.1.2.2.1, ())).bind fun r3 =>
  some (((r1.1.1.1, (r1.1.1.2.1, (r1.1.1.2.2.1, (r1.1.1.2.2.2.1, (r2.1.1, (r3.1.1, (x.1.2.2.2.1, (x.1.2.2.2.2.1, (x.1.2.2.2.2.2.1, ()))))))))), ()), ())
abbrev C_laws_toHost : Con := ⟨P_laws_toHost, R_laws_toHost, F_laws_toHost, false⟩
abbrev G_laws_toHost : Env := [(21, C_laws_toPolicy), (32, C_laws_toInt64S), (54, C_laws_toHartS)]
theorem g_laws_toHost : EnvOk Tryz.prog G_laws_toHost := (env_cons s_laws_toPolicy (env_cons s_laws_toInt64S (env_cons s_laws_toHartS env_nil)))
theorem r_laws_toHost (x) : runFn T G_laws_toHost [] Tryz.f11 P_laws_toHost R_laws_toHost x = F_laws_toHost x := by kernel_rfl
theorem s_laws_toHost : CallsOk Tryz.prog 11 C_laws_toHost :=
  fn_calls (L := []) hT g_laws_toHost Tryz.f11 (by kernel_rfl) (by kernel_rfl) (by kernel_rfl) (plain_ok (by kernel_rfl)) r_laws_toHost
/-! spec.l1In -/
abbrev P_spec_l1In : List PK := [.val YI, .val YI, .val YI]
abbrev R_spec_l1In : List VK := [.s (.dat .bool)]
def F_spec_l1In (x : denP P_spec_l1In) : Option (denV R_spec_l1In × denQ P_spec_l1In) :=
  if (leI x.2.1 x.1) = true then
    some (((leI x.1 x.2.2.1), ()), ())
  else
    some ((false, ()), ())
abbrev C_spec_l1In : Con := ⟨P_spec_l1In, R_spec_l1In, F_spec_l1In, false⟩
abbrev G_spec_l1In : Env := []
theorem g_spec_l1In : EnvOk Tryz.prog G_spec_l1In := env_nil
theorem r_spec_l1In (x) : runFn T G_spec_l1In [] Tryz.f112 P_spec_l1In R_spec_l1In x = F_spec_l1In x := by kernel_rfl
theorem s_spec_l1In : CallsOk Tryz.prog 112 C_spec_l1In :=
  fn_calls (L := []) hT g_spec_l1In Tryz.f112 (by kernel_rfl) (by kernel_rfl) (by kernel_rfl) (plain_ok (by kernel_rfl)) r_spec_l1In
/-! spec.l1Has -/
abbrev P_spec_l1Has : List PK := [.val Y28, .val YI]
abbrev R_spec_l1Has : List VK := [.s (.dat .bool)]
abbrev i_spec_l1Has_2 : Shp := { slots := [(0, .s (.dat Y28)), (1, .s (.dat YI)), (5, .s (.dat YI))], boxes := [], rows := [] }
abbrev o_spec_l1Has_2 : List (Ex × Shp) := [(.exit 0, { slots := [], boxes := [], rows := [] }), (.ret, { slots := [(4, .s (.dat .bool))], boxes := [], rows := [] })]
def l_spec_l1Has_2 (rec : i_spec_l1Has_2.den → Option (denO o_spec_l1Has_2)) (u2 : i_spec_l1Has_2.den) : Option (denO o_spec_l1Has_2) :=
  let v2 := ((u2.1.1.length : Nat) : Int)
  if (ltI u2.1.2.2.1 v2) then
    if 0 ≤ u2.1.2.2.1 then
      ((u2.1.1)[(u2.1.2.2.1).toNat]?).bind fun y3 =>
      if (y3 == u2.1.2.1) then
        some (.inr (.inl ((true, ()), ((), ()))))
      else
        let v4 := (IntKind.i64.wrap (u2.1.2.2.1 + (1 : Int)))
        rec ((u2.1.1, (u2.1.2.1, (v4, ()))), ((), ()))
    else none
  else
    some (.inl ((), ((), ())))
def L_spec_l1Has_2 (x : i_spec_l1Has_2.den) : Option (denO o_spec_l1Has_2) := iterF l_spec_l1Has_2 lots x
def F_spec_l1Has (x : denP P_spec_l1Has) : Option (denV R_spec_l1Has × denQ P_spec_l1Has) :=
  (L_spec_l1Has_2 ((x.1, (x.2.1, ((0 : Int), ()))), ((), ()))).bind fun z5 =>
  match z5 with
  | .inl x6 =>
    some ((false, ()), ())
  | .inr z5_ =>
    match z5_ with
    | .inl x7 =>
      some ((x7.1.1, ()), ())
    | .inr z5__ =>
      none
abbrev C_spec_l1Has : Con := ⟨P_spec_l1Has, R_spec_l1Has, F_spec_l1Has, false⟩
abbrev G_spec_l1Has : Env := []
theorem g_spec_l1Has : EnvOk Tryz.prog G_spec_l1Has := env_nil
abbrev c_spec_l1Has_2 : Cut := ⟨i_spec_l1Has_2, o_spec_l1Has_2, fun x => iterF l_spec_l1Has_2 lots x⟩
theorem t_spec_l1Has_2 (rec x) : run T G_spec_l1Has [] (nav Tryz.f166 [1, 0, 1, 0, 0]) (mk 18 i_spec_l1Has_2 x) (loopK i_spec_l1Has_2 o_spec_l1Has_2 rec) = l_spec_l1Has_2 rec x := by kernel_rfl
theorem k_spec_l1Has_2 : CutOk Tryz.prog 18 (.loop (nav Tryz.f166 [1, 0, 1, 0, 0])) c_spec_l1Has_2 :=
  loop_cut (L := []) hT g_spec_l1Has t_spec_l1Has_2 (plain_ok (by kernel_rfl)) _
theorem r_spec_l1Has (x) : runFn T G_spec_l1Has [(2, c_spec_l1Has_2)] Tryz.f166 P_spec_l1Has R_spec_l1Has x = F_spec_l1Has x := by kernel_rfl
theorem s_spec_l1Has : CallsOk Tryz.prog 166 C_spec_l1Has :=
  fn_calls (L := [(2, c_spec_l1Has_2)]) hT g_spec_l1Has Tryz.f166 (by kernel_rfl) (by kernel_rfl) (by kernel_rfl) (seq_ok (plain_ok (by kernel_rfl)) (seq_ok (seq_ok (plain_ok (by kernel_rfl)) (block_ok (by kernel_rfl) (loop_ok (by kernel_rfl) k_spec_l1Has_2))) (plain_ok (by kernel_rfl)))) r_spec_l1Has
/-! spec.l6Owns -/
abbrev P_spec_l6Owns : List PK := [.ptr Y26]
abbrev R_spec_l6Owns : List VK := [.s (.dat YI)]
abbrev i_spec_l6Owns_18 : Shp := { slots := [(0, .s (.pd Y26)), (5, .s (.own 2 YI)), (6, .s (.dat YI)), (7, .s (.dat YI))], boxes := [], rows := [] }
abbrev o_spec_l6Owns_18 : List (Ex × Shp) := [(.exit 6, { slots := [(0, .s (.pd Y26)), (5, .s (.own 2 YI)), (6, .s (.dat YI))], boxes := [], rows := [] }), (.ret, { slots := [(2, .s (.dat YI))], boxes := [], rows := [] })]
def l_spec_l6Owns_18 (rec : i_spec_l6Owns_18.den → Option (denO o_spec_l6Owns_18)) (u18 : i_spec_l6Owns_18.den) : Option (denO o_spec_l6Owns_18) :=
  if 0 ≤ u18.1.2.2.1 then
    ((u18.1.1.1)[(u18.1.2.2.1).toNat]?).bind fun y49 =>
    let v50 := ((y49.length : Nat) : Int)
    if (ltI u18.1.2.2.2.1 v50) then
      if 0 ≤ u18.1.2.2.1 then
        ((u18.1.1.1)[(u18.1.2.2.1).toNat]?).bind fun y51 =>
        if 0 ≤ u18.1.2.2.2.1 then
          ((y51)[(u18.1.2.2.2.1).toNat]?).bind fun y52 =>
          (F_spec_l1Has (u18.1.2.1, y52, ())).bind fun r53 =>
          if r53.1.1 then
            some (.inr (.inl (((6 : Int), ()), ((), ()))))
          else
            if 0 ≤ u18.1.2.2.1 then
              ((u18.1.1.1)[(u18.1.2.2.1).toNat]?).bind fun y54 =>
              if 0 ≤ u18.1.2.2.2.1 then
                ((y54)[(u18.1.2.2.2.1).toNat]?).bind fun y55 =>
                if (u18.1.2.1.length + [y55].length) * 8 ≤ 140737488355328 then
                  let v56 := (u18.1.2.1 ++ [y55])
                  let v57 := (IntKind.i64.wrap (u18.1.2.2.2.1 + (1 : Int)))
                  rec ((u18.1.1, (v56, (u18.1.2.2.1, (v57, ())))), ((), ()))
                else none
              else none
            else none
        else none
      else none
    else
      some (.inl ((u18.1.1, (u18.1.2.1, (u18.1.2.2.1, ()))), ((), ())))
  else none
def L_spec_l6Owns_18 (x : i_spec_l6Owns_18.den) : Option (denO o_spec_l6Owns_18) := iterF l_spec_l6Owns_18 lots x
abbrev i_spec_l6Owns_9 : Shp := { slots := [(0, .s (.pd Y26)), (3, .s (.dat YI)), (4, .s (.dat YI)), (41, .s (.pd Y26)), (42, .s (.pd Y26)), (43, .s (.pd Y22)), (44, .s (.dat Y22)), (45, .s (.dat YI)), (46, .s (.pd Y28)), (47, .s (.dat Y28)), (48, .s (.dat YI)), (49, .s (.dat .bool))], boxes := [], rows := [] }
abbrev o_spec_l6Owns_9 : List (Ex × Shp) := [(.exit 2, { slots := [(0, .s (.pd Y26)), (3, .s (.dat YI)), (41, .s (.pd Y26)), (42, .s (.pd Y26)), (43, .s (.pd Y22)), (44, .s (.dat Y22)), (45, .s (.dat YI)), (46, .s (.pd Y28)), (47, .s (.dat Y28)), (48, .s (.dat YI)), (49, .s (.dat .bool))], boxes := [], rows := [] }), (.ret, { slots := [(2, .s (.dat YI))], boxes := [], rows := [] })]
def l_spec_l6Owns_9 (rec : i_spec_l6Owns_9.den → Option (denO o_spec_l6Owns_9)) (u9 : i_spec_l6Owns_9.den) : Option (denO o_spec_l6Owns_9) :=
  if 0 ≤ u9.1.2.1 then
    ((u9.1.1.1)[(u9.1.2.1).toNat]?).bind fun y21 =>
    let v22 := ((y21.length : Nat) : Int)
    if (ltI u9.1.2.2.1 v22) then
      if 0 ≤ u9.1.2.1 then
        ((u9.1.1.1)[(u9.1.2.1).toNat]?).bind fun y23 =>
        if 0 ≤ u9.1.2.2.1 then
          ((y23)[(u9.1.2.2.1).toNat]?).bind fun y24 =>
          (F_spec_l1In (y24, (0 : Int), (23 : Int), ())).bind fun r25 =>
          if (!r25.1.1) then
            some (.inr (.inl (((3 : Int), ()), ((), ()))))
          else
            let v26 := (IntKind.i64.wrap (u9.1.2.2.1 + (1 : Int)))
            rec ((u9.1.1, (u9.1.2.1, (v26, (u9.1.2.2.2.1, (u9.1.2.2.2.2.1, (u9.1.2.2.2.2.2.1, (u9.1.2.2.2.2.2.2.1, (u9.1.2.2.2.2.2.2.2.1, (u9.1.2.2.2.2.2.2.2.2.1, (u9.1.2.2.2.2.2.2.2.2.2.1, (u9.1.2.2.2.2.2.2.2.2.2.2.1, (u9.1.2.2.2.2.2.2.2.2.2.2.2.1, ())))))))))))), ((), ()))
        else none
      else none
    else
      some (.inl ((u9.1.1, (u9.1.2.1, (u9.1.2.2.2.1, (u9.1.2.2.2.2.1, (u9.1.2.2.2.2.2.1, (u9.1.2.2.2.2.2.2.1, (u9.1.2.2.2.2.2.2.2.1, (u9.1.2.2.2.2.2.2.2.2.1, (u9.1.2.2.2.2.2.2.2.2.2.1, (u9.1.2.2.2.2.2.2.2.2.2.2.1, (u9.1.2.2.2.2.2.2.2.2.2.2.2.1, ()))))))))))), ((), ())))
  else none
def L_spec_l6Owns_9 (x : i_spec_l6Owns_9.den) : Option (denO o_spec_l6Owns_9) := iterF l_spec_l6Owns_9 lots x
abbrev i_spec_l6Owns_15 : Shp := { slots := [(0, .s (.pd Y26)), (5, .s (.own 2 YI)), (6, .s (.dat YI))], boxes := [], rows := [] }
abbrev o_spec_l6Owns_15 : List (Ex × Shp) := [(.exit 4, { slots := [], boxes := [], rows := [] }), (.ret, { slots := [(2, .s (.dat YI))], boxes := [], rows := [] })]
def l_spec_l6Owns_15 (rec : i_spec_l6Owns_15.den → Option (denO o_spec_l6Owns_15)) (u15 : i_spec_l6Owns_15.den) : Option (denO o_spec_l6Owns_15) :=
  let v42 := ((u15.1.1.1.length : Nat) : Int)
  if (ltI u15.1.2.2.1 v42) then
    (L_spec_l6Owns_18 ((u15.1.1, (u15.1.2.1, (u15.1.2.2.1, ((0 : Int), ())))), ((), ()))).bind fun z58 =>
    match z58 with
    | .inl x59 =>
      let v60 := (IntKind.i64.wrap (x59.1.2.2.1 + (1 : Int)))
      rec ((x59.1.1, (x59.1.2.1, (v60, ()))), ((), ()))
    | .inr z58_ =>
      match z58_ with
      | .inl x61 =>
        some (.inr (.inl ((x61.1.1, ()), ((), ()))))
      | .inr z58__ =>
        none
  else
    some (.inl ((), ((), ())))
def L_spec_l6Owns_15 (x : i_spec_l6Owns_15.den) : Option (denO o_spec_l6Owns_15) := iterF l_spec_l6Owns_15 lots x
abbrev i_spec_l6Owns_4 : Shp := { slots := [(0, .s (.pd Y26)), (3, .s (.dat YI))], boxes := [], rows := [] }
abbrev o_spec_l6Owns_4 : List (Ex × Shp) := [(.exit 0, { slots := [(0, .s (.pd Y26))], boxes := [], rows := [] }), (.ret, { slots := [(2, .s (.dat YI))], boxes := [], rows := [] })]
def l_spec_l6Owns_4 (rec : i_spec_l6Owns_4.den → Option (denO o_spec_l6Owns_4)) (u4 : i_spec_l6Owns_4.den) : Option (denO o_spec_l6Owns_4) :=
  let v12 := ((u4.1.1.1.length : Nat) : Int)
  if (ltI u4.1.2.1 v12) then
    if 0 ≤ u4.1.2.1 then
      ((u4.1.1.1)[(u4.1.2.1).toNat]?).bind fun y13 =>
      let v14 := ((y13.length : Nat) : Int)
      if (ltI v14 (1 : Int)) = false then
        if 0 ≤ u4.1.2.1 then
          ((u4.1.1.1)[(u4.1.2.1).toNat]?).bind fun y15 =>
          let v16 := ((y15.length : Nat) : Int)
          if (ltI (5 : Int) v16) then
            some (.inr (.inl (((2 : Int), ()), ((), ()))))
          else
            (L_spec_l6Owns_9 ((u4.1.1, (u4.1.2.1, ((0 : Int), (u4.1.1, (u4.1.1, (u4.1.1.1, (u4.1.1.1, (u4.1.2.1, (y15, (y15, (v16, ((ltI (5 : Int) v16), ())))))))))))), ((), ()))).bind fun z27 =>
            match z27 with
            | .inl x28 =>
              let v29 := (IntKind.i64.wrap (x28.1.2.1 + (1 : Int)))
              rec ((x28.1.1, (v29, ())), ((), ()))
            | .inr z27_ =>
              match z27_ with
              | .inl x30 =>
                some (.inr (.inl ((x30.1.1, ()), ((), ()))))
              | .inr z27__ =>
                none
        else none
      else
        some (.inr (.inl (((2 : Int), ()), ((), ()))))
    else none
  else
    some (.inl ((u4.1.1, ()), ((), ())))
def L_spec_l6Owns_4 (x : i_spec_l6Owns_4.den) : Option (denO o_spec_l6Owns_4) := iterF l_spec_l6Owns_4 lots x
def F_spec_l6Owns (x : denP P_spec_l6Owns) : Option (denV R_spec_l6Owns × denQ P_spec_l6Owns) :=
  let v1 := ((x.1.1.length : Nat) : Int)
  if (ltI v1 (1 : Int)) = false then
    let v2 := ((x.1.1.length : Nat) : Int)
    if (ltI (3 : Int) v2) then
      some (((2 : Int), ()), ())
    else
      (L_spec_l6Owns_4 ((x.1, ((0 : Int), ())), ((), ()))).bind fun z31 =>
      match z31 with
      | .inl x32 =>
        (L_spec_l6Owns_15 ((x32.1.1, (([] : List (den YI)), ((0 : Int), ()))), ((), ()))).bind fun z62 =>
        match z62 with
        | .inl x63 =>
          some (((0 : Int), ()), ())
        | .inr z62_ =>
          match z62_ with
          | .inl x64 =>
            some ((x64.1.1, ()), ())
          | .inr z62__ =>
            none
      | .inr z31_ =>
        match z31_ with
        | .inl x65 =>
          some ((x65.1.1, ()), ())
        | .inr z31__ =>
          none
  else
    some (((2 : Int), ()), ())
abbrev C_spec_l6Owns : Con := ⟨P_spec_l6Owns, R_spec_l6Owns, F_spec_l6Owns, false⟩
abbrev G_spec_l6Owns : Env := [(112, C_spec_l1In), (166, C_spec_l1Has)]
theorem g_spec_l6Owns : EnvOk Tryz.prog G_spec_l6Owns := (env_cons s_spec_l1In (env_cons s_spec_l1Has env_nil))
abbrev c_spec_l6Owns_18 : Cut := ⟨i_spec_l6Owns_18, o_spec_l6Owns_18, fun x => iterF l_spec_l6Owns_18 lots x⟩
theorem t_spec_l6Owns_18 (rec x) : run T G_spec_l6Owns [] (nav Tryz.f149 [1, 1, 1, 1, 0, 1, 0, 0, 1, 0, 0, 1, 0, 0]) (mk 122 i_spec_l6Owns_18 x) (loopK i_spec_l6Owns_18 o_spec_l6Owns_18 rec) = l_spec_l6Owns_18 rec x := by kernel_rfl
theorem k_spec_l6Owns_18 : CutOk Tryz.prog 122 (.loop (nav Tryz.f149 [1, 1, 1, 1, 0, 1, 0, 0, 1, 0, 0, 1, 0, 0])) c_spec_l6Owns_18 :=
  loop_cut (L := []) hT g_spec_l6Owns t_spec_l6Owns_18 (plain_ok (by kernel_rfl)) _
abbrev c_spec_l6Owns_9 : Cut := ⟨i_spec_l6Owns_9, o_spec_l6Owns_9, fun x => iterF l_spec_l6Owns_9 lots x⟩
theorem t_spec_l6Owns_9 (rec x) : run T G_spec_l6Owns [] (nav Tryz.f149 [1, 1, 0, 1, 0, 0, 1, 0, 0, 1, 1, 0, 0]) (mk 122 i_spec_l6Owns_9 x) (loopK i_spec_l6Owns_9 o_spec_l6Owns_9 rec) = l_spec_l6Owns_9 rec x := by kernel_rfl
theorem k_spec_l6Owns_9 : CutOk Tryz.prog 122 (.loop (nav Tryz.f149 [1, 1, 0, 1, 0, 0, 1, 0, 0, 1, 1, 0, 0])) c_spec_l6Owns_9 :=
  loop_cut (L := []) hT g_spec_l6Owns t_spec_l6Owns_9 (plain_ok (by kernel_rfl)) _
abbrev c_spec_l6Owns_15 : Cut := ⟨i_spec_l6Owns_15, o_spec_l6Owns_15, fun x => iterF l_spec_l6Owns_15 lots x⟩
theorem t_spec_l6Owns_15 (rec x) : run T G_spec_l6Owns [(18, c_spec_l6Owns_18)] (nav Tryz.f149 [1, 1, 1, 1, 0, 1, 0, 0]) (mk 122 i_spec_l6Owns_15 x) (loopK i_spec_l6Owns_15 o_spec_l6Owns_15 rec) = l_spec_l6Owns_15 rec x := by kernel_rfl
theorem k_spec_l6Owns_15 : CutOk Tryz.prog 122 (.loop (nav Tryz.f149 [1, 1, 1, 1, 0, 1, 0, 0])) c_spec_l6Owns_15 :=
  loop_cut (L := [(18, c_spec_l6Owns_18)]) hT g_spec_l6Owns t_spec_l6Owns_15 (seq_ok (plain_ok (by kernel_rfl)) (seq_ok (block_ok (by kernel_rfl) (seq_ok (plain_ok (by kernel_rfl)) (block_ok (by kernel_rfl) (loop_ok (by kernel_rfl) k_spec_l6Owns_18)))) (plain_ok (by kernel_rfl)))) _
abbrev c_spec_l6Owns_4 : Cut := ⟨i_spec_l6Owns_4, o_spec_l6Owns_4, fun x => iterF l_spec_l6Owns_4 lots x⟩
theorem t_spec_l6Owns_4 (rec x) : run T G_spec_l6Owns [(9, c_spec_l6Owns_9)] (nav Tryz.f149 [1, 1, 0, 1, 0, 0]) (mk 122 i_spec_l6Owns_4 x) (loopK i_spec_l6Owns_4 o_spec_l6Owns_4 rec) = l_spec_l6Owns_4 rec x := by kernel_rfl
theorem k_spec_l6Owns_4 : CutOk Tryz.prog 122 (.loop (nav Tryz.f149 [1, 1, 0, 1, 0, 0])) c_spec_l6Owns_4 :=
  loop_cut (L := [(9, c_spec_l6Owns_9)]) hT g_spec_l6Owns t_spec_l6Owns_4 (seq_ok (plain_ok (by kernel_rfl)) (seq_ok (block_ok (by kernel_rfl) (seq_ok (plain_ok (by kernel_rfl)) (seq_ok (plain_ok (by kernel_rfl)) (block_ok (by kernel_rfl) (loop_ok (by kernel_rfl) k_spec_l6Owns_9))))) (plain_ok (by kernel_rfl)))) _
theorem r_spec_l6Owns (x) : runFn T G_spec_l6Owns [(18, c_spec_l6Owns_18), (9, c_spec_l6Owns_9), (15, c_spec_l6Owns_15), (4, c_spec_l6Owns_4)] Tryz.f149 P_spec_l6Owns R_spec_l6Owns x = F_spec_l6Owns x := by kernel_rfl
theorem s_spec_l6Owns : CallsOk Tryz.prog 149 C_spec_l6Owns :=
  fn_calls (L := [(18, c_spec_l6Owns_18), (9, c_spec_l6Owns_9), (15, c_spec_l6Owns_15), (4, c_spec_l6Owns_4)]) hT g_spec_l6Owns Tryz.f149 (by kernel_rfl) (by kernel_rfl) (by kernel_rfl) (seq_ok (plain_ok (by kernel_rfl)) (seq_ok (plain_ok (by kernel_rfl)) (seq_ok (seq_ok (plain_ok (by kernel_rfl)) (block_ok (by kernel_rfl) (loop_ok (by kernel_rfl) k_spec_l6Owns_4))) (seq_ok (plain_ok (by kernel_rfl)) (seq_ok (seq_ok (plain_ok (by kernel_rfl)) (block_ok (by kernel_rfl) (loop_ok (by kernel_rfl) k_spec_l6Owns_15))) (plain_ok (by kernel_rfl))))))) r_spec_l6Owns
/-! spec.l6Guest -/
abbrev P_spec_l6Guest : List PK := [.ptr Y26, .val YI]
abbrev R_spec_l6Guest : List VK := [.s (.dat .bool)]
def F_spec_l6Guest (x : denP P_spec_l6Guest) : Option (denV R_spec_l6Guest × denQ P_spec_l6Guest) :=
  let v1 := ((x.1.1.length : Nat) : Int)
  let v2 := (IntKind.i64.wrap (v1 - (1 : Int)))
  (F_spec_l1In (x.2.1, (0 : Int), v2, ())).bind fun r3 =>
  some ((r3.1.1, ()), ())
abbrev C_spec_l6Guest : Con := ⟨P_spec_l6Guest, R_spec_l6Guest, F_spec_l6Guest, false⟩
abbrev G_spec_l6Guest : Env := [(112, C_spec_l1In)]
theorem g_spec_l6Guest : EnvOk Tryz.prog G_spec_l6Guest := (env_cons s_spec_l1In env_nil)
theorem r_spec_l6Guest (x) : runFn T G_spec_l6Guest [] Tryz.f101 P_spec_l6Guest R_spec_l6Guest x = F_spec_l6Guest x := by kernel_rfl
theorem s_spec_l6Guest : CallsOk Tryz.prog 101 C_spec_l6Guest :=
  fn_calls (L := []) hT g_spec_l6Guest Tryz.f101 (by kernel_rfl) (by kernel_rfl) (by kernel_rfl) (plain_ok (by kernel_rfl)) r_spec_l6Guest
/-! spec.l6Ends -/
abbrev P_spec_l6Ends : List PK := [.ptr Y26, .val YI, .val YI]
abbrev R_spec_l6Ends : List VK := [.s (.dat YI)]
def F_spec_l6Ends (x : denP P_spec_l6Ends) : Option (denV R_spec_l6Ends × denQ P_spec_l6Ends) :=
  (F_spec_l6Guest (x.1, x.2.1, ())).bind fun r1 =>
  if (!r1.1.1) = false then
    (F_spec_l6Guest (x.1, x.2.2.1, ())).bind fun r2 =>
    if (!r2.1.1) then
      some (((4 : Int), ()), ())
    else
      if (x.2.1 == x.2.2.1) then
        some (((1 : Int), ()), ())
      else
        some (((0 : Int), ()), ())
  else
    some (((4 : Int), ()), ())
abbrev C_spec_l6Ends : Con := ⟨P_spec_l6Ends, R_spec_l6Ends, F_spec_l6Ends, false⟩
abbrev G_spec_l6Ends : Env := [(101, C_spec_l6Guest)]
theorem g_spec_l6Ends : EnvOk Tryz.prog G_spec_l6Ends := (env_cons s_spec_l6Guest env_nil)
theorem r_spec_l6Ends (x) : runFn T G_spec_l6Ends [] Tryz.f167 P_spec_l6Ends R_spec_l6Ends x = F_spec_l6Ends x := by kernel_rfl
theorem s_spec_l6Ends : CallsOk Tryz.prog 167 C_spec_l6Ends :=
  fn_calls (L := []) hT g_spec_l6Ends Tryz.f167 (by kernel_rfl) (by kernel_rfl) (by kernel_rfl) (plain_ok (by kernel_rfl)) r_spec_l6Ends
/-! spec.l6Owner -/
abbrev P_spec_l6Owner : List PK := [.ptr Y26, .val YI]
abbrev R_spec_l6Owner : List VK := [.s (.dat YI)]
abbrev i_spec_l6Owner_2 : Shp := { slots := [(0, .s (.pd Y26)), (1, .s (.dat YI)), (5, .s (.dat YI))], boxes := [], rows := [] }
abbrev o_spec_l6Owner_2 : List (Ex × Shp) := [(.exit 0, { slots := [], boxes := [], rows := [] }), (.ret, { slots := [(4, .s (.dat YI))], boxes := [], rows := [] })]
def l_spec_l6Owner_2 (rec : i_spec_l6Owner_2.den → Option (denO o_spec_l6Owner_2)) (u2 : i_spec_l6Owner_2.den) : Option (denO o_spec_l6Owner_2) :=
  let v3 := ((u2.1.1.1.length : Nat) : Int)
  if (ltI u2.1.2.2.1 v3) then
    if 0 ≤ u2.1.2.2.1 then
      ((u2.1.1.1)[(u2.1.2.2.1).toNat]?).bind fun y4 =>
      (F_spec_l1Has (y4, u2.1.2.1, ())).bind fun r5 =>
      if r5.1.1 then
        some (.inr (.inl ((u2.1.2.2.1, ()), ((), ()))))
      else
        let v6 := (IntKind.i64.wrap (u2.1.2.2.1 + (1 : Int)))
        rec ((u2.1.1, (u2.1.2.1, (v6, ()))), ((), ()))
    else none
  else
    some (.inl ((), ((), ())))
def L_spec_l6Owner_2 (x : i_spec_l6Owner_2.den) : Option (denO o_spec_l6Owner_2) := iterF l_spec_l6Owner_2 lots x
def F_spec_l6Owner (x : denP P_spec_l6Owner) : Option (denV R_spec_l6Owner × denQ P_spec_l6Owner) :=
  (L_spec_l6Owner_2 ((x.1, (x.2.1, ((0 : Int), ()))), ((), ()))).bind fun z7 =>
  match z7 with
  | .inl x8 =>
    some (((-1 : Int), ()), ())
  | .inr z7_ =>
    match z7_ with
    | .inl x9 =>
      some ((x9.1.1, ()), ())
    | .inr z7__ =>
      none
abbrev C_spec_l6Owner : Con := ⟨P_spec_l6Owner, R_spec_l6Owner, F_spec_l6Owner, false⟩
abbrev G_spec_l6Owner : Env := [(166, C_spec_l1Has)]
theorem g_spec_l6Owner : EnvOk Tryz.prog G_spec_l6Owner := (env_cons s_spec_l1Has env_nil)
abbrev c_spec_l6Owner_2 : Cut := ⟨i_spec_l6Owner_2, o_spec_l6Owner_2, fun x => iterF l_spec_l6Owner_2 lots x⟩
theorem t_spec_l6Owner_2 (rec x) : run T G_spec_l6Owner [] (nav Tryz.f168 [1, 0, 1, 0, 0]) (mk 25 i_spec_l6Owner_2 x) (loopK i_spec_l6Owner_2 o_spec_l6Owner_2 rec) = l_spec_l6Owner_2 rec x := by kernel_rfl
theorem k_spec_l6Owner_2 : CutOk Tryz.prog 25 (.loop (nav Tryz.f168 [1, 0, 1, 0, 0])) c_spec_l6Owner_2 :=
  loop_cut (L := []) hT g_spec_l6Owner t_spec_l6Owner_2 (plain_ok (by kernel_rfl)) _
theorem r_spec_l6Owner (x) : runFn T G_spec_l6Owner [(2, c_spec_l6Owner_2)] Tryz.f168 P_spec_l6Owner R_spec_l6Owner x = F_spec_l6Owner x := by kernel_rfl
theorem s_spec_l6Owner : CallsOk Tryz.prog 168 C_spec_l6Owner :=
  fn_calls (L := [(2, c_spec_l6Owner_2)]) hT g_spec_l6Owner Tryz.f168 (by kernel_rfl) (by kernel_rfl) (by kernel_rfl) (seq_ok (plain_ok (by kernel_rfl)) (seq_ok (seq_ok (plain_ok (by kernel_rfl)) (block_ok (by kernel_rfl) (loop_ok (by kernel_rfl) k_spec_l6Owner_2))) (plain_ok (by kernel_rfl)))) r_spec_l6Owner
/-! spec.l6At -/
abbrev P_spec_l6At : List PK := [.val Y165, .val YI, .val YI]
abbrev R_spec_l6At : List VK := [.s (.dat .bool)]
def F_spec_l6At (x : denP P_spec_l6At) : Option (denV R_spec_l6At × denQ P_spec_l6At) :=
  if (x.1.1 == x.2.1) = true then
    if (x.1.2.2.2.1 == x.2.2.1) = false then
      if (x.1.2.1 == x.2.1) = true then
        some (((x.1.2.2.2.2.1 == x.2.2.1), ()), ())
      else
        some ((false, ()), ())
    else
      some ((true, ()), ())
  else
    if (x.1.2.1 == x.2.1) = true then
      some (((x.1.2.2.2.2.1 == x.2.2.1), ()), ())
    else
      some ((false, ()), ())
abbrev C_spec_l6At : Con := ⟨P_spec_l6At, R_spec_l6At, F_spec_l6At, false⟩
abbrev G_spec_l6At : Env := []
theorem g_spec_l6At : EnvOk Tryz.prog G_spec_l6At := env_nil
theorem r_spec_l6At (x) : runFn T G_spec_l6At [] Tryz.f169 P_spec_l6At R_spec_l6At x = F_spec_l6At x := by kernel_rfl
theorem s_spec_l6At : CallsOk Tryz.prog 169 C_spec_l6At :=
  fn_calls (L := []) hT g_spec_l6At Tryz.f169 (by kernel_rfl) (by kernel_rfl) (by kernel_rfl) (plain_ok (by kernel_rfl)) r_spec_l6At
/-! spec.l6Lanes -/
abbrev P_spec_l6Lanes : List PK := [.ptr Y26]
abbrev R_spec_l6Lanes : List VK := [.s (.dat YI)]
abbrev i_spec_l6Lanes_15 : Shp := { slots := [(0, .s (.pd Y26)), (3, .s (.dat YI)), (4, .s (.ptr 4 0)), (6, .s (.dat YI)), (52, .s (.ptr 4 3)), (53, .s (.dat YI)), (54, .s (.dat .bool)), (55, .s (.dat .bool)), (58, .s (.ptr 4 4)), (59, .s (.dat YI)), (60, .s (.dat .bool)), (61, .s (.dat .bool))], boxes := [(4, [.dat YI, .dat YI, .dat YI, .dat YI, .dat YI])], rows := [] }
abbrev o_spec_l6Lanes_15 : List (Ex × Shp) := [(.exit 2, { slots := [(0, .s (.pd Y26)), (3, .s (.dat YI)), (52, .s (.ptr 4 3)), (53, .s (.dat YI)), (54, .s (.dat .bool)), (55, .s (.dat .bool)), (58, .s (.ptr 4 4)), (59, .s (.dat YI)), (60, .s (.dat .bool)), (61, .s (.dat .bool))], boxes := [(4, [.dat YI, .dat YI, .dat YI, .dat YI, .dat YI])], rows := [] }), (.ret, { slots := [(2, .s (.dat YI))], boxes := [], rows := [] })]
def l_spec_l6Lanes_15 (rec : i_spec_l6Lanes_15.den → Option (denO o_spec_l6Lanes_15)) (u15 : i_spec_l6Lanes_15.den) : Option (denO o_spec_l6Lanes_15) :=
  if (ltI u15.1.2.2.2.1 u15.1.2.1) then
    if 0 ≤ u15.1.2.2.2.1 then
      ((u15.1.1.2.1)[(u15.1.2.2.2.1).toNat]?).bind fun y25 =>
      if (y25.2.2.1 == u15.2.1.1.2.2.1) = false then
        (F_spec_l6At (y25, u15.2.1.1.1, u15.2.1.1.2.2.2.1, ())).bind fun r26 =>
        if r26.1.1 = false then
          (F_spec_l6At (y25, u15.2.1.1.2.1, u15.2.1.1.2.2.2.2.1, ())).bind fun r27 =>
          if r27.1.1 then
            some (.inr (.inl (((6 : Int), ()), ((), ()))))
          else
            let v28 := (IntKind.i64.wrap (u15.1.2.2.2.1 + (1 : Int)))
            rec ((u15.1.1, (u15.1.2.1, ((), (v28, ((), (u15.1.2.2.2.2.2.1, (u15.1.2.2.2.2.2.2.1, (u15.1.2.2.2.2.2.2.2.1, ((), (u15.1.2.2.2.2.2.2.2.2.2.1, (u15.1.2.2.2.2.2.2.2.2.2.2.1, (u15.1.2.2.2.2.2.2.2.2.2.2.2.1, ())))))))))))), (((u15.2.1.1.1, (u15.2.1.1.2.1, (u15.2.1.1.2.2.1, (u15.2.1.1.2.2.2.1, (u15.2.1.1.2.2.2.2.1, ()))))), ()), ()))
        else
          some (.inr (.inl (((6 : Int), ()), ((), ()))))
      else
        some (.inr (.inl (((6 : Int), ()), ((), ()))))
    else none
  else
    some (.inl ((u15.1.1, (u15.1.2.1, ((), (u15.1.2.2.2.2.2.1, (u15.1.2.2.2.2.2.2.1, (u15.1.2.2.2.2.2.2.2.1, ((), (u15.1.2.2.2.2.2.2.2.2.2.1, (u15.1.2.2.2.2.2.2.2.2.2.2.1, (u15.1.2.2.2.2.2.2.2.2.2.2.2.1, ())))))))))), (((u15.2.1.1.1, (u15.2.1.1.2.1, (u15.2.1.1.2.2.1, (u15.2.1.1.2.2.2.1, (u15.2.1.1.2.2.2.2.1, ()))))), ()), ())))
def L_spec_l6Lanes_15 (x : i_spec_l6Lanes_15.den) : Option (denO o_spec_l6Lanes_15) := iterF l_spec_l6Lanes_15 lots x
abbrev i_spec_l6Lanes_4 : Shp := { slots := [(0, .s (.pd Y26)), (3, .s (.dat YI))], boxes := [], rows := [] }
abbrev o_spec_l6Lanes_4 : List (Ex × Shp) := [(.exit 0, { slots := [], boxes := [], rows := [] }), (.ret, { slots := [(2, .s (.dat YI))], boxes := [], rows := [] })]
def l_spec_l6Lanes_4 (rec : i_spec_l6Lanes_4.den → Option (denO o_spec_l6Lanes_4)) (u4 : i_spec_l6Lanes_4.den) : Option (denO o_spec_l6Lanes_4) :=
  let v15 := ((u4.1.1.2.1.length : Nat) : Int)
  if (ltI u4.1.2.1 v15) then
    if 0 ≤ u4.1.2.1 then
      ((u4.1.1.2.1)[(u4.1.2.1).toNat]?).bind fun y16 =>
      (F_spec_l6Ends (u4.1.1, y16.1, y16.2.1, ())).bind fun r17 =>
      if (r17.1.1 != (0 : Int)) then
        some (.inr (.inl ((r17.1.1, ()), ((), ()))))
      else
        (F_spec_l1In (y16.2.2.1, (0 : Int), (23 : Int), ())).bind fun r18 =>
        if (!r18.1.1) = false then
          (F_spec_l1In (y16.2.2.2.1, (5 : Int), (6 : Int), ())).bind fun r19 =>
          if (!r19.1.1) = false then
            (F_spec_l1In (y16.2.2.2.2.1, (5 : Int), (6 : Int), ())).bind fun r20 =>
            if (!r20.1.1) then
              some (.inr (.inl (((3 : Int), ()), ((), ()))))
            else
              (F_spec_l6Owner (u4.1.1, y16.2.2.1, ())).bind fun r21 =>
              if (leI (0 : Int) r21.1.1) then
                some (.inr (.inl (((6 : Int), ()), ((), ()))))
              else
                (L_spec_l6Lanes_15 ((u4.1.1, (u4.1.2.1, ((), ((0 : Int), ((), (y16.2.2.2.1, (r19.1.1, ((!r19.1.1), ((), (y16.2.2.2.2.1, (r20.1.1, ((!r20.1.1), ())))))))))))), (((y16.1, (y16.2.1, (y16.2.2.1, (y16.2.2.2.1, (y16.2.2.2.2.1, ()))))), ()), ()))).bind fun z29 =>
                match z29 with
                | .inl x30 =>
                  let v31 := (IntKind.i64.wrap (x30.1.2.1 + (1 : Int)))
                  rec ((x30.1.1, (v31, ())), ((), ()))
                | .inr z29_ =>
                  match z29_ with
                  | .inl x32 =>
                    some (.inr (.inl ((x32.1.1, ()), ((), ()))))
                  | .inr z29__ =>
                    none
          else
            some (.inr (.inl (((3 : Int), ()), ((), ()))))
        else
          some (.inr (.inl (((3 : Int), ()), ((), ()))))
    else none
  else
    some (.inl ((), ((), ())))
def L_spec_l6Lanes_4 (x : i_spec_l6Lanes_4.den) : Option (denO o_spec_l6Lanes_4) := iterF l_spec_l6Lanes_4 lots x
def F_spec_l6Lanes (x : denP P_spec_l6Lanes) : Option (denV R_spec_l6Lanes × denQ P_spec_l6Lanes) :=
  let v1 := ((x.1.2.1.length : Nat) : Int)
  if (ltI (4 : Int) v1) = false then
    let v2 := ((x.1.2.2.1.length : Nat) : Int)
    if (ltI (4 : Int) v2) then
      some (((2 : Int), ()), ())
    else
      (L_spec_l6Lanes_4 ((x.1, ((0 : Int), ())), ((), ()))).bind fun z33 =>
      match z33 with
      | .inl x34 =>
        some (((0 : Int), ()), ())
      | .inr z33_ =>
        match z33_ with
        | .inl x35 =>
          some ((x35.1.1, ()), ())
        | .inr z33__ =>
          none
  else
    some (((2 : Int), ()), ())
abbrev C_spec_l6Lanes : Con := ⟨P_spec_l6Lanes, R_spec_l6Lanes, F_spec_l6Lanes, false⟩
abbrev G_spec_l6Lanes : Env := [(112, C_spec_l1In), (167, C_spec_l6Ends), (168, C_spec_l6Owner), (169, C_spec_l6At)]
theorem g_spec_l6Lanes : EnvOk Tryz.prog G_spec_l6Lanes := (env_cons s_spec_l1In (env_cons s_spec_l6Ends (env_cons s_spec_l6Owner (env_cons s_spec_l6At env_nil))))
abbrev c_spec_l6Lanes_15 : Cut := ⟨i_spec_l6Lanes_15, o_spec_l6Lanes_15, fun x => iterF l_spec_l6Lanes_15 lots x⟩
theorem t_spec_l6Lanes_15 (rec x) : run T G_spec_l6Lanes [] (nav Tryz.f150 [1, 1, 0, 1, 0, 0, 1, 0, 0, 1, 1, 1, 1, 1, 0, 0]) (mk 101 i_spec_l6Lanes_15 x) (loopK i_spec_l6Lanes_15 o_spec_l6Lanes_15 rec) = l_spec_l6Lanes_15 rec x := by kernel_rfl
theorem k_spec_l6Lanes_15 : CutOk Tryz.prog 101 (.loop (nav Tryz.f150 [1, 1, 0, 1, 0, 0, 1, 0, 0, 1, 1, 1, 1, 1, 0, 0])) c_spec_l6Lanes_15 :=
  loop_cut (L := []) hT g_spec_l6Lanes t_spec_l6Lanes_15 (plain_ok (by kernel_rfl)) _
abbrev c_spec_l6Lanes_4 : Cut := ⟨i_spec_l6Lanes_4, o_spec_l6Lanes_4, fun x => iterF l_spec_l6Lanes_4 lots x⟩
theorem t_spec_l6Lanes_4 (rec x) : run T G_spec_l6Lanes [(15, c_spec_l6Lanes_15)] (nav Tryz.f150 [1, 1, 0, 1, 0, 0]) (mk 101 i_spec_l6Lanes_4 x) (loopK i_spec_l6Lanes_4 o_spec_l6Lanes_4 rec) = l_spec_l6Lanes_4 rec x := by kernel_rfl
theorem k_spec_l6Lanes_4 : CutOk Tryz.prog 101 (.loop (nav Tryz.f150 [1, 1, 0, 1, 0, 0])) c_spec_l6Lanes_4 :=
  loop_cut (L := [(15, c_spec_l6Lanes_15)]) hT g_spec_l6Lanes t_spec_l6Lanes_4 (seq_ok (plain_ok (by kernel_rfl)) (seq_ok (block_ok (by kernel_rfl) (seq_ok (plain_ok (by kernel_rfl)) (seq_ok (plain_ok (by kernel_rfl)) (seq_ok (plain_ok (by kernel_rfl)) (seq_ok (plain_ok (by kernel_rfl)) (seq_ok (plain_ok (by kernel_rfl)) (block_ok (by kernel_rfl) (loop_ok (by kernel_rfl) k_spec_l6Lanes_15)))))))) (plain_ok (by kernel_rfl)))) _
theorem r_spec_l6Lanes (x) : runFn T G_spec_l6Lanes [(15, c_spec_l6Lanes_15), (4, c_spec_l6Lanes_4)] Tryz.f150 P_spec_l6Lanes R_spec_l6Lanes x = F_spec_l6Lanes x := by kernel_rfl
theorem s_spec_l6Lanes : CallsOk Tryz.prog 150 C_spec_l6Lanes :=
  fn_calls (L := [(15, c_spec_l6Lanes_15), (4, c_spec_l6Lanes_4)]) hT g_spec_l6Lanes Tryz.f150 (by kernel_rfl) (by kernel_rfl) (by kernel_rfl) (seq_ok (plain_ok (by kernel_rfl)) (seq_ok (plain_ok (by kernel_rfl)) (seq_ok (seq_ok (plain_ok (by kernel_rfl)) (block_ok (by kernel_rfl) (loop_ok (by kernel_rfl) k_spec_l6Lanes_4))) (plain_ok (by kernel_rfl))))) r_spec_l6Lanes
/-! spec.l6Rest -/
abbrev P_spec_l6Rest : List PK := [.ptr Y26]
abbrev R_spec_l6Rest : List VK := [.s (.dat YI)]
abbrev i_spec_l6Rest_9 : Shp := { slots := [(0, .s (.pd Y26)), (3, .s (.dat YI)), (4, .s (.ptr 4 0)), (6, .s (.dat YI))], boxes := [(4, [.dat YI, .dat YI])], rows := [] }
abbrev o_spec_l6Rest_9 : List (Ex × Shp) := [(.exit 2, { slots := [(0, .s (.pd Y26)), (3, .s (.dat YI))], boxes := [], rows := [] }), (.ret, { slots := [(2, .s (.dat YI))], boxes := [], rows := [] })]
def l_spec_l6Rest_9 (rec : i_spec_l6Rest_9.den → Option (denO o_spec_l6Rest_9)) (u9 : i_spec_l6Rest_9.den) : Option (denO o_spec_l6Rest_9) :=
  if (ltI u9.1.2.2.2.1 u9.1.2.1) then
    if 0 ≤ u9.1.2.2.2.1 then
      ((u9.1.1.2.2.1)[(u9.1.2.2.2.1).toNat]?).bind fun y11 =>
      if ((y11.1 == u9.2.1.1.1) && ((y11.2.1 == u9.2.1.1.2.1) && true)) then
        some (.inr (.inl (((6 : Int), ()), ((), ()))))
      else
        let v12 := (IntKind.i64.wrap (u9.1.2.2.2.1 + (1 : Int)))
        rec ((u9.1.1, (u9.1.2.1, ((), (v12, ())))), (((u9.2.1.1.1, (u9.2.1.1.2.1, ())), ()), ()))
    else none
  else
    some (.inl ((u9.1.1, (u9.1.2.1, ())), ((), ())))
def L_spec_l6Rest_9 (x : i_spec_l6Rest_9.den) : Option (denO o_spec_l6Rest_9) := iterF l_spec_l6Rest_9 lots x
abbrev i_spec_l6Rest_16 : Shp := { slots := [(0, .s (.pd Y26)), (7, .s (.dat YI))], boxes := [], rows := [] }
abbrev o_spec_l6Rest_16 : List (Ex × Shp) := [(.exit 4, { slots := [], boxes := [], rows := [] }), (.ret, { slots := [(2, .s (.dat YI))], boxes := [], rows := [] })]
def l_spec_l6Rest_16 (rec : i_spec_l6Rest_16.den → Option (denO o_spec_l6Rest_16)) (u16 : i_spec_l6Rest_16.den) : Option (denO o_spec_l6Rest_16) :=
  let v25 := ((u16.1.1.2.2.2.1.length : Nat) : Int)
  if (ltI u16.1.2.1 v25) then
    if 0 ≤ u16.1.2.1 then
      ((u16.1.1.2.2.2.1)[(u16.1.2.1).toNat]?).bind fun y26 =>
      (F_spec_l6Guest (u16.1.1, y26.1, ())).bind fun r27 =>
      if (!r27.1.1) then
        some (.inr (.inl (((4 : Int), ()), ((), ()))))
      else
        if 0 ≤ u16.1.2.1 then
          ((u16.1.1.2.2.2.1)[(u16.1.2.1).toNat]?).bind fun y28 =>
          (F_spec_l1In (y28.2.1, (1 : Int), (50 : Int), ())).bind fun r29 =>
          if (!r29.1.1) then
            some (.inr (.inl (((3 : Int), ()), ((), ()))))
          else
            let v30 := (IntKind.i64.wrap (u16.1.2.1 + (1 : Int)))
            rec ((u16.1.1, (v30, ())), ((), ()))
        else none
    else none
  else
    some (.inl ((), ((), ())))
def L_spec_l6Rest_16 (x : i_spec_l6Rest_16.den) : Option (denO o_spec_l6Rest_16) := iterF l_spec_l6Rest_16 lots x
abbrev i_spec_l6Rest_2 : Shp := { slots := [(0, .s (.pd Y26)), (3, .s (.dat YI))], boxes := [], rows := [] }
abbrev o_spec_l6Rest_2 : List (Ex × Shp) := [(.exit 0, { slots := [(0, .s (.pd Y26))], boxes := [], rows := [] }), (.ret, { slots := [(2, .s (.dat YI))], boxes := [], rows := [] })]
def l_spec_l6Rest_2 (rec : i_spec_l6Rest_2.den → Option (denO o_spec_l6Rest_2)) (u2 : i_spec_l6Rest_2.den) : Option (denO o_spec_l6Rest_2) :=
  let v7 := ((u2.1.1.2.2.1.length : Nat) : Int)
  if (ltI u2.1.2.1 v7) then
    if 0 ≤ u2.1.2.1 then
      ((u2.1.1.2.2.1)[(u2.1.2.1).toNat]?).bind fun y8 =>
      (F_spec_l6Ends (u2.1.1, y8.1, y8.2.1, ())).bind fun r9 =>
      if (r9.1.1 != (0 : Int)) then
        some (.inr (.inl ((r9.1.1, ()), ((), ()))))
      else
        (L_spec_l6Rest_9 ((u2.1.1, (u2.1.2.1, ((), ((0 : Int), ())))), (((y8.1, (y8.2.1, ())), ()), ()))).bind fun z13 =>
        match z13 with
        | .inl x14 =>
          let v15 := (IntKind.i64.wrap (x14.1.2.1 + (1 : Int)))
          rec ((x14.1.1, (v15, ())), ((), ()))
        | .inr z13_ =>
          match z13_ with
          | .inl x16 =>
            some (.inr (.inl ((x16.1.1, ()), ((), ()))))
          | .inr z13__ =>
            none
    else none
  else
    some (.inl ((u2.1.1, ()), ((), ())))
def L_spec_l6Rest_2 (x : i_spec_l6Rest_2.den) : Option (denO o_spec_l6Rest_2) := iterF l_spec_l6Rest_2 lots x
def F_spec_l6Rest (x : denP P_spec_l6Rest) : Option (denV R_spec_l6Rest × denQ P_spec_l6Rest) :=
  (L_spec_l6Rest_2 ((x.1, ((0 : Int), ())), ((), ()))).bind fun z17 =>
  match z17 with
  | .inl x18 =>
    let v19 := ((x18.1.1.2.2.2.1.length : Nat) : Int)
    if (ltI v19 (1 : Int)) = false then
      let v20 := ((x18.1.1.2.2.2.1.length : Nat) : Int)
      if (ltI (8 : Int) v20) then
        some (((2 : Int), ()), ())
      else
        (L_spec_l6Rest_16 ((x18.1.1, ((0 : Int), ())), ((), ()))).bind fun z31 =>
        match z31 with
        | .inl x32 =>
          some (((0 : Int), ()), ())
        | .inr z31_ =>
          match z31_ with
          | .inl x33 =>
            some ((x33.1.1, ()), ())
          | .inr z31__ =>
            none
    else
      some (((2 : Int), ()), ())
  | .inr z17_ =>
    match z17_ with
    | .inl x34 =>
      some ((x34.1.1, ()), ())
    | .inr z17__ =>
      none
abbrev C_spec_l6Rest : Con := ⟨P_spec_l6Rest, R_spec_l6Rest, F_spec_l6Rest, false⟩
abbrev G_spec_l6Rest : Env := [(101, C_spec_l6Guest), (112, C_spec_l1In), (167, C_spec_l6Ends)]
theorem g_spec_l6Rest : EnvOk Tryz.prog G_spec_l6Rest := (env_cons s_spec_l6Guest (env_cons s_spec_l1In (env_cons s_spec_l6Ends env_nil)))
abbrev c_spec_l6Rest_9 : Cut := ⟨i_spec_l6Rest_9, o_spec_l6Rest_9, fun x => iterF l_spec_l6Rest_9 lots x⟩
theorem t_spec_l6Rest_9 (rec x) : run T G_spec_l6Rest [] (nav Tryz.f151 [1, 0, 1, 0, 0, 1, 0, 0, 1, 1, 1, 0, 0]) (mk 91 i_spec_l6Rest_9 x) (loopK i_spec_l6Rest_9 o_spec_l6Rest_9 rec) = l_spec_l6Rest_9 rec x := by kernel_rfl
theorem k_spec_l6Rest_9 : CutOk Tryz.prog 91 (.loop (nav Tryz.f151 [1, 0, 1, 0, 0, 1, 0, 0, 1, 1, 1, 0, 0])) c_spec_l6Rest_9 :=
  loop_cut (L := []) hT g_spec_l6Rest t_spec_l6Rest_9 (plain_ok (by kernel_rfl)) _
abbrev c_spec_l6Rest_16 : Cut := ⟨i_spec_l6Rest_16, o_spec_l6Rest_16, fun x => iterF l_spec_l6Rest_16 lots x⟩
theorem t_spec_l6Rest_16 (rec x) : run T G_spec_l6Rest [] (nav Tryz.f151 [1, 1, 1, 0, 1, 0, 0]) (mk 91 i_spec_l6Rest_16 x) (loopK i_spec_l6Rest_16 o_spec_l6Rest_16 rec) = l_spec_l6Rest_16 rec x := by kernel_rfl
theorem k_spec_l6Rest_16 : CutOk Tryz.prog 91 (.loop (nav Tryz.f151 [1, 1, 1, 0, 1, 0, 0])) c_spec_l6Rest_16 :=
  loop_cut (L := []) hT g_spec_l6Rest t_spec_l6Rest_16 (plain_ok (by kernel_rfl)) _
abbrev c_spec_l6Rest_2 : Cut := ⟨i_spec_l6Rest_2, o_spec_l6Rest_2, fun x => iterF l_spec_l6Rest_2 lots x⟩
theorem t_spec_l6Rest_2 (rec x) : run T G_spec_l6Rest [(9, c_spec_l6Rest_9)] (nav Tryz.f151 [1, 0, 1, 0, 0]) (mk 91 i_spec_l6Rest_2 x) (loopK i_spec_l6Rest_2 o_spec_l6Rest_2 rec) = l_spec_l6Rest_2 rec x := by kernel_rfl
theorem k_spec_l6Rest_2 : CutOk Tryz.prog 91 (.loop (nav Tryz.f151 [1, 0, 1, 0, 0])) c_spec_l6Rest_2 :=
  loop_cut (L := [(9, c_spec_l6Rest_9)]) hT g_spec_l6Rest t_spec_l6Rest_2 (seq_ok (plain_ok (by kernel_rfl)) (seq_ok (block_ok (by kernel_rfl) (seq_ok (plain_ok (by kernel_rfl)) (seq_ok (plain_ok (by kernel_rfl)) (seq_ok (plain_ok (by kernel_rfl)) (block_ok (by kernel_rfl) (loop_ok (by kernel_rfl) k_spec_l6Rest_9)))))) (plain_ok (by kernel_rfl)))) _
theorem r_spec_l6Rest (x) : runFn T G_spec_l6Rest [(9, c_spec_l6Rest_9), (16, c_spec_l6Rest_16), (2, c_spec_l6Rest_2)] Tryz.f151 P_spec_l6Rest R_spec_l6Rest x = F_spec_l6Rest x := by kernel_rfl
theorem s_spec_l6Rest : CallsOk Tryz.prog 151 C_spec_l6Rest :=
  fn_calls (L := [(9, c_spec_l6Rest_9), (16, c_spec_l6Rest_16), (2, c_spec_l6Rest_2)]) hT g_spec_l6Rest Tryz.f151 (by kernel_rfl) (by kernel_rfl) (by kernel_rfl) (seq_ok (plain_ok (by kernel_rfl)) (seq_ok (seq_ok (plain_ok (by kernel_rfl)) (block_ok (by kernel_rfl) (loop_ok (by kernel_rfl) k_spec_l6Rest_2))) (seq_ok (plain_ok (by kernel_rfl)) (seq_ok (seq_ok (plain_ok (by kernel_rfl)) (block_ok (by kernel_rfl) (loop_ok (by kernel_rfl) k_spec_l6Rest_16))) (plain_ok (by kernel_rfl)))))) r_spec_l6Rest
/-! spec.l6Fault -/
abbrev P_spec_l6Fault : List PK := [.ptr Y26]
abbrev R_spec_l6Fault : List VK := [.s (.dat YI)]
def F_spec_l6Fault (x : denP P_spec_l6Fault) : Option (denV R_spec_l6Fault × denQ P_spec_l6Fault) :=
  (F_spec_l6Owns (x.1, ())).bind fun r1 =>
  if (r1.1.1 != (0 : Int)) then
    some ((r1.1.1, ()), ())
  else
    (F_spec_l6Lanes (x.1, ())).bind fun r2 =>
    if (r2.1.1 != (0 : Int)) then
      some ((r2.1.1, ()), ())
    else
      (F_spec_l6Rest (x.1, ())).bind fun r3 =>
      some ((r3.1.1, ()), ())
abbrev C_spec_l6Fault : Con := ⟨P_spec_l6Fault, R_spec_l6Fault, F_spec_l6Fault, false⟩
abbrev G_spec_l6Fault : Env := [(149, C_spec_l6Owns), (150, C_spec_l6Lanes), (151, C_spec_l6Rest)]
theorem g_spec_l6Fault : EnvOk Tryz.prog G_spec_l6Fault := (env_cons s_spec_l6Owns (env_cons s_spec_l6Lanes (env_cons s_spec_l6Rest env_nil)))
theorem r_spec_l6Fault (x) : runFn T G_spec_l6Fault [] Tryz.f109 P_spec_l6Fault R_spec_l6Fault x = F_spec_l6Fault x := by kernel_rfl
theorem s_spec_l6Fault : CallsOk Tryz.prog 109 C_spec_l6Fault :=
  fn_calls (L := []) hT g_spec_l6Fault Tryz.f109 (by kernel_rfl) (by kernel_rfl) (by kernel_rfl) (plain_ok (by kernel_rfl)) r_spec_l6Fault
/-! spec.MemoryFault -/
abbrev P_spec_MemoryFault : List PK := [.val Y28]
abbrev R_spec_MemoryFault : List VK := [.s (.dat YI)]
abbrev i_spec_MemoryFault_4 : Shp := { slots := [(0, .s (.dat Y28)), (3, .s (.dat YI))], boxes := [], rows := [] }
abbrev o_spec_MemoryFault_4 : List (Ex × Shp) := [(.exit 0, { slots := [], boxes := [], rows := [] }), (.ret, { slots := [(2, .s (.dat YI))], boxes := [], rows := [] })]
def l_spec_MemoryFault_4 (rec : i_spec_MemoryFault_4.den → Option (denO o_spec_MemoryFault_4)) (u4 : i_spec_MemoryFault_4.den) : Option (denO o_spec_MemoryFault_4) :=
  let v7 := ((u4.1.1.length : Nat) : Int)
  if (ltI u4.1.2.1 v7) then
    if 0 ≤ u4.1.2.1 then
      ((u4.1.1)[(u4.1.2.1).toNat]?).bind fun y8 =>
      (F_spec_l1In (y8, (0 : Int), (4294967295 : Int), ())).bind fun r9 =>
      if (!r9.1.1) then
        some (.inr (.inl (((3 : Int), ()), ((), ()))))
      else
        let v10 := (IntKind.i64.wrap (u4.1.2.1 + (1 : Int)))
        rec ((u4.1.1, (v10, ())), ((), ()))
    else none
  else
    some (.inl ((), ((), ())))
def L_spec_MemoryFault_4 (x : i_spec_MemoryFault_4.den) : Option (denO o_spec_MemoryFault_4) := iterF l_spec_MemoryFault_4 lots x
def F_spec_MemoryFault (x : denP P_spec_MemoryFault) : Option (denV R_spec_MemoryFault × denQ P_spec_MemoryFault) :=
  let v1 := ((x.1.length : Nat) : Int)
  let v2 := ((v1).tmod (8 : Int))
  if (v2 != (0 : Int)) = false then
    let v3 := ((x.1.length : Nat) : Int)
    if (ltI v3 (8 : Int)) = false then
      let v4 := ((x.1.length : Nat) : Int)
      if (ltI (192 : Int) v4) then
        some (((1 : Int), ()), ())
      else
        (L_spec_MemoryFault_4 ((x.1, ((0 : Int), ())), ((), ()))).bind fun z11 =>
        match z11 with
        | .inl x12 =>
          some (((0 : Int), ()), ())
        | .inr z11_ =>
          match z11_ with
          | .inl x13 =>
            some ((x13.1.1, ()), ())
          | .inr z11__ =>
            none
    else
      some (((1 : Int), ()), ())
  else
    some (((1 : Int), ()), ())
abbrev C_spec_MemoryFault : Con := ⟨P_spec_MemoryFault, R_spec_MemoryFault, F_spec_MemoryFault, false⟩
abbrev G_spec_MemoryFault : Env := [(112, C_spec_l1In)]
theorem g_spec_MemoryFault : EnvOk Tryz.prog G_spec_MemoryFault := (env_cons s_spec_l1In env_nil)
abbrev c_spec_MemoryFault_4 : Cut := ⟨i_spec_MemoryFault_4, o_spec_MemoryFault_4, fun x => iterF l_spec_MemoryFault_4 lots x⟩
theorem t_spec_MemoryFault_4 (rec x) : run T G_spec_MemoryFault [] (nav Tryz.f138 [1, 1, 0, 1, 0, 0]) (mk 30 i_spec_MemoryFault_4 x) (loopK i_spec_MemoryFault_4 o_spec_MemoryFault_4 rec) = l_spec_MemoryFault_4 rec x := by kernel_rfl
theorem k_spec_MemoryFault_4 : CutOk Tryz.prog 30 (.loop (nav Tryz.f138 [1, 1, 0, 1, 0, 0])) c_spec_MemoryFault_4 :=
  loop_cut (L := []) hT g_spec_MemoryFault t_spec_MemoryFault_4 (plain_ok (by kernel_rfl)) _
theorem r_spec_MemoryFault (x) : runFn T G_spec_MemoryFault [(4, c_spec_MemoryFault_4)] Tryz.f138 P_spec_MemoryFault R_spec_MemoryFault x = F_spec_MemoryFault x := by kernel_rfl
theorem s_spec_MemoryFault : CallsOk Tryz.prog 138 C_spec_MemoryFault :=
  fn_calls (L := [(4, c_spec_MemoryFault_4)]) hT g_spec_MemoryFault Tryz.f138 (by kernel_rfl) (by kernel_rfl) (by kernel_rfl) (seq_ok (plain_ok (by kernel_rfl)) (seq_ok (plain_ok (by kernel_rfl)) (seq_ok (seq_ok (plain_ok (by kernel_rfl)) (block_ok (by kernel_rfl) (loop_ok (by kernel_rfl) k_spec_MemoryFault_4))) (plain_ok (by kernel_rfl))))) r_spec_MemoryFault
/-! spec.l7Whole -/
abbrev P_spec_l7Whole : List PK := [.val Y28]
abbrev R_spec_l7Whole : List VK := [.s (.dat .bool)]
def F_spec_l7Whole (x : denP P_spec_l7Whole) : Option (denV R_spec_l7Whole × denQ P_spec_l7Whole) :=
  (F_spec_MemoryFault (x.1, ())).bind fun r1 =>
  if (r1.1.1 == (0 : Int)) = true then
    let v2 := ((x.1.length : Nat) : Int)
    some (((v2 == (192 : Int)), ()), ())
  else
    some ((false, ()), ())
abbrev C_spec_l7Whole : Con := ⟨P_spec_l7Whole, R_spec_l7Whole, F_spec_l7Whole, false⟩
abbrev G_spec_l7Whole : Env := [(138, C_spec_MemoryFault)]
theorem g_spec_l7Whole : EnvOk Tryz.prog G_spec_l7Whole := (env_cons s_spec_MemoryFault env_nil)
theorem r_spec_l7Whole (x) : runFn T G_spec_l7Whole [] Tryz.f110 P_spec_l7Whole R_spec_l7Whole x = F_spec_l7Whole x := by kernel_rfl
theorem s_spec_l7Whole : CallsOk Tryz.prog 110 C_spec_l7Whole :=
  fn_calls (L := []) hT g_spec_l7Whole Tryz.f110 (by kernel_rfl) (by kernel_rfl) (by kernel_rfl) (plain_ok (by kernel_rfl)) r_spec_l7Whole
/-! spec.l8Word -/
abbrev P_spec_l8Word : List PK := [.val YI]
abbrev R_spec_l8Word : List VK := [.s (.dat .bool)]
def F_spec_l8Word (x : denP P_spec_l8Word) : Option (denV R_spec_l8Word × denQ P_spec_l8Word) :=
  (F_spec_l1In (x.1, (0 : Int), (4294967295 : Int), ())).bind fun r1 =>
  some ((r1.1.1, ()), ())
abbrev C_spec_l8Word : Con := ⟨P_spec_l8Word, R_spec_l8Word, F_spec_l8Word, false⟩
abbrev G_spec_l8Word : Env := [(112, C_spec_l1In)]
theorem g_spec_l8Word : EnvOk Tryz.prog G_spec_l8Word := (env_cons s_spec_l1In env_nil)
theorem r_spec_l8Word (x) : runFn T G_spec_l8Word [] Tryz.f152 P_spec_l8Word R_spec_l8Word x = F_spec_l8Word x := by kernel_rfl
theorem s_spec_l8Word : CallsOk Tryz.prog 152 C_spec_l8Word :=
  fn_calls (L := []) hT g_spec_l8Word Tryz.f152 (by kernel_rfl) (by kernel_rfl) (by kernel_rfl) (plain_ok (by kernel_rfl)) r_spec_l8Word
/-! spec.l8All -/
abbrev P_spec_l8All : List PK := [.val Y28]
abbrev R_spec_l8All : List VK := [.s (.dat .bool)]
abbrev i_spec_l8All_2 : Shp := { slots := [(0, .s (.dat Y28)), (3, .s (.dat YI))], boxes := [], rows := [] }
abbrev o_spec_l8All_2 : List (Ex × Shp) := [(.exit 0, { slots := [], boxes := [], rows := [] }), (.ret, { slots := [(2, .s (.dat .bool))], boxes := [], rows := [] })]
def l_spec_l8All_2 (rec : i_spec_l8All_2.den → Option (denO o_spec_l8All_2)) (u2 : i_spec_l8All_2.den) : Option (denO o_spec_l8All_2) :=
  let v3 := ((u2.1.1.length : Nat) : Int)
  if (ltI u2.1.2.1 v3) then
    if 0 ≤ u2.1.2.1 then
      ((u2.1.1)[(u2.1.2.1).toNat]?).bind fun y4 =>
      (F_spec_l8Word (y4, ())).bind fun r5 =>
      if (!r5.1.1) then
        some (.inr (.inl ((false, ()), ((), ()))))
      else
        let v6 := (IntKind.i64.wrap (u2.1.2.1 + (1 : Int)))
        rec ((u2.1.1, (v6, ())), ((), ()))
    else none
  else
    some (.inl ((), ((), ())))
def L_spec_l8All_2 (x : i_spec_l8All_2.den) : Option (denO o_spec_l8All_2) := iterF l_spec_l8All_2 lots x
def F_spec_l8All (x : denP P_spec_l8All) : Option (denV R_spec_l8All × denQ P_spec_l8All) :=
  (L_spec_l8All_2 ((x.1, ((0 : Int), ())), ((), ()))).bind fun z7 =>
  match z7 with
  | .inl x8 =>
    some ((true, ()), ())
  | .inr z7_ =>
    match z7_ with
    | .inl x9 =>
      some ((x9.1.1, ()), ())
    | .inr z7__ =>
      none
abbrev C_spec_l8All : Con := ⟨P_spec_l8All, R_spec_l8All, F_spec_l8All, false⟩
abbrev G_spec_l8All : Env := [(152, C_spec_l8Word)]
theorem g_spec_l8All : EnvOk Tryz.prog G_spec_l8All := (env_cons s_spec_l8Word env_nil)
abbrev c_spec_l8All_2 : Cut := ⟨i_spec_l8All_2, o_spec_l8All_2, fun x => iterF l_spec_l8All_2 lots x⟩
theorem t_spec_l8All_2 (rec x) : run T G_spec_l8All [] (nav Tryz.f122 [1, 0, 1, 0, 0]) (mk 16 i_spec_l8All_2 x) (loopK i_spec_l8All_2 o_spec_l8All_2 rec) = l_spec_l8All_2 rec x := by kernel_rfl
theorem k_spec_l8All_2 : CutOk Tryz.prog 16 (.loop (nav Tryz.f122 [1, 0, 1, 0, 0])) c_spec_l8All_2 :=
  loop_cut (L := []) hT g_spec_l8All t_spec_l8All_2 (plain_ok (by kernel_rfl)) _
theorem r_spec_l8All (x) : runFn T G_spec_l8All [(2, c_spec_l8All_2)] Tryz.f122 P_spec_l8All R_spec_l8All x = F_spec_l8All x := by kernel_rfl
theorem s_spec_l8All : CallsOk Tryz.prog 122 C_spec_l8All :=
  fn_calls (L := [(2, c_spec_l8All_2)]) hT g_spec_l8All Tryz.f122 (by kernel_rfl) (by kernel_rfl) (by kernel_rfl) (seq_ok (plain_ok (by kernel_rfl)) (seq_ok (seq_ok (plain_ok (by kernel_rfl)) (block_ok (by kernel_rfl) (loop_ok (by kernel_rfl) k_spec_l8All_2))) (plain_ok (by kernel_rfl)))) r_spec_l8All
/-! spec.l8Fault -/
abbrev P_spec_l8Fault : List PK := [.ptr Y68]
abbrev R_spec_l8Fault : List VK := [.s (.dat YI)]
def F_spec_l8Fault (x : denP P_spec_l8Fault) : Option (denV R_spec_l8Fault × denQ P_spec_l8Fault) :=
  let v1 := ((x.1.1.length : Nat) : Int)
  if (v1 != (16 : Int)) = false then
    let v2 := ((x.1.2.2.1.length : Nat) : Int)
    if (v2 != (11 : Int)) = false then
      ((x.1.1)[((0 : Int)).toNat]?).bind fun y3 =>
      if (y3 != (0 : Int)) then
        some (((1 : Int), ()), ())
      else
        (F_spec_l8All (x.1.1, ())).bind fun r4 =>
        if (!r4.1.1) = false then
          (F_spec_l8Word (x.1.2.1, ())).bind fun r5 =>
          if (!r5.1.1) = false then
            (F_spec_l8All (x.1.2.2.1, ())).bind fun r6 =>
            if (!r6.1.1) = false then
              (F_spec_l8All (x.1.2.2.2.2.2.2.2.1, ())).bind fun r7 =>
              if (!r7.1.1) = false then
                (F_spec_l8All (x.1.2.2.2.2.2.2.2.2.1, ())).bind fun r8 =>
                if (!r8.1.1) then
                  some (((3 : Int), ()), ())
                else
                  let v9 := ((x.1.2.2.2.2.2.2.2.1.length : Nat) : Int)
                  if (ltI (40 : Int) v9) = false then
                    let v10 := ((x.1.2.2.2.2.2.2.2.2.1.length : Nat) : Int)
                    if (ltI (40 : Int) v10) then
                      some (((2 : Int), ()), ())
                    else
                      (F_spec_l1In (x.1.2.2.2.2.2.2.1, (0 : Int), (1000000000 : Int), ())).bind fun r11 =>
                      if (!r11.1.1) then
                        some (((3 : Int), ()), ())
                      else
                        ((x.1.2.2.1)[((0 : Int)).toNat]?).bind fun y12 =>
                        if (ltI (3 : Int) y12) = false then
                          ((x.1.2.2.1)[((7 : Int)).toNat]?).bind fun y13 =>
                          if (ltI (7 : Int) y13) = false then
                            ((x.1.2.2.1)[((10 : Int)).toNat]?).bind fun y14 =>
                            if (ltI (8 : Int) y14) = false then
                              ((x.1.2.2.1)[((6 : Int)).toNat]?).bind fun y15 =>
                              if (y15 != (0 : Int)) = false then
                                ((x.1.2.2.1)[((8 : Int)).toNat]?).bind fun y16 =>
                                if (y16 != (0 : Int)) then
                                  some (((1 : Int), ()), ())
                                else
                                  some (((0 : Int), ()), ())
                              else
                                some (((1 : Int), ()), ())
                            else
                              some (((1 : Int), ()), ())
                          else
                            some (((1 : Int), ()), ())
                        else
                          some (((1 : Int), ()), ())
                  else
                    some (((2 : Int), ()), ())
              else
                some (((3 : Int), ()), ())
            else
              some (((3 : Int), ()), ())
          else
            some (((3 : Int), ()), ())
        else
          some (((3 : Int), ()), ())
    else
      some (((1 : Int), ()), ())
  else
    some (((1 : Int), ()), ())
abbrev C_spec_l8Fault : Con := ⟨P_spec_l8Fault, R_spec_l8Fault, F_spec_l8Fault, false⟩
abbrev G_spec_l8Fault : Env := [(112, C_spec_l1In), (122, C_spec_l8All), (152, C_spec_l8Word)]
theorem g_spec_l8Fault : EnvOk Tryz.prog G_spec_l8Fault := (env_cons s_spec_l1In (env_cons s_spec_l8All (env_cons s_spec_l8Word env_nil)))
theorem r_spec_l8Fault (x) : runFn T G_spec_l8Fault [] Tryz.f111 P_spec_l8Fault R_spec_l8Fault x = F_spec_l8Fault x := by kernel_rfl
theorem s_spec_l8Fault : CallsOk Tryz.prog 111 C_spec_l8Fault :=
  fn_calls (L := []) hT g_spec_l8Fault Tryz.f111 (by kernel_rfl) (by kernel_rfl) (by kernel_rfl) (plain_ok (by kernel_rfl)) r_spec_l8Fault
/-! spec.l12Turn -/
abbrev P_spec_l12Turn : List PK := [.ptr Y26, .val YI]
abbrev R_spec_l12Turn : List VK := [.s (.dat YI), .s (.dat YI)]
abbrev i_spec_l12Turn_8 : Shp := { slots := [(0, .s (.pd Y26)), (8, .s (.dat YI)), (9, .s (.dat YI))], boxes := [], rows := [] }
abbrev o_spec_l12Turn_8 : List (Ex × Shp) := [(.exit 2, { slots := [(0, .s (.pd Y26)), (8, .s (.dat YI)), (9, .s (.dat YI))], boxes := [], rows := [] })]
def l_spec_l12Turn_8 (rec : i_spec_l12Turn_8.den → Option (denO o_spec_l12Turn_8)) (u8 : i_spec_l12Turn_8.den) : Option (denO o_spec_l12Turn_8) :=
  if 0 ≤ u8.1.2.2.1 then
    ((u8.1.1.2.2.2.1)[(u8.1.2.2.1).toNat]?).bind fun y11 =>
    if (leI y11.2.1 u8.1.2.1) then
      if 0 ≤ u8.1.2.2.1 then
        ((u8.1.1.2.2.2.1)[(u8.1.2.2.1).toNat]?).bind fun y12 =>
        let v13 := (IntKind.i64.wrap (u8.1.2.1 - y12.2.1))
        let v14 := (IntKind.i64.wrap (u8.1.2.2.1 + (1 : Int)))
        rec ((u8.1.1, (v13, (v14, ()))), ((), ()))
      else none
    else
      some (.inl ((u8.1.1, (u8.1.2.1, (u8.1.2.2.1, ()))), ((), ())))
  else none
def L_spec_l12Turn_8 (x : i_spec_l12Turn_8.den) : Option (denO o_spec_l12Turn_8) := iterF l_spec_l12Turn_8 lots x
abbrev i_spec_l12Turn_3 : Shp := { slots := [(0, .s (.pd Y26)), (1, .s (.dat YI)), (6, .s (.dat YI)), (7, .s (.dat YI))], boxes := [], rows := [] }
abbrev o_spec_l12Turn_3 : List (Ex × Shp) := [(.exit 0, { slots := [(0, .s (.pd Y26)), (1, .s (.dat YI)), (6, .s (.dat YI))], boxes := [], rows := [] })]
def l_spec_l12Turn_3 (rec : i_spec_l12Turn_3.den → Option (denO o_spec_l12Turn_3)) (u3 : i_spec_l12Turn_3.den) : Option (denO o_spec_l12Turn_3) :=
  let v2 := ((u3.1.1.2.2.2.1.length : Nat) : Int)
  if (ltI u3.1.2.2.2.1 v2) then
    if 0 ≤ u3.1.2.2.2.1 then
      ((u3.1.1.2.2.2.1)[(u3.1.2.2.2.1).toNat]?).bind fun y3 =>
      let v4 := (IntKind.i64.wrap (u3.1.2.2.1 + y3.2.1))
      let v5 := (IntKind.i64.wrap (u3.1.2.2.2.1 + (1 : Int)))
      rec ((u3.1.1, (u3.1.2.1, (v4, (v5, ())))), ((), ()))
    else none
  else
    some (.inl ((u3.1.1, (u3.1.2.1, (u3.1.2.2.1, ()))), ((), ())))
def L_spec_l12Turn_3 (x : i_spec_l12Turn_3.den) : Option (denO o_spec_l12Turn_3) := iterF l_spec_l12Turn_3 lots x
def F_spec_l12Turn (x : denP P_spec_l12Turn) : Option (denV R_spec_l12Turn × denQ P_spec_l12Turn) :=
  (L_spec_l12Turn_3 ((x.1, (x.2.1, ((0 : Int), ((0 : Int), ())))), ((), ()))).bind fun z6 =>
  match z6 with
  | .inl x7 =>
    if x7.1.2.2.1 = 0 then none else
    let v8 := ((x7.1.2.1).tmod x7.1.2.2.1)
    (L_spec_l12Turn_8 ((x7.1.1, (v8, ((0 : Int), ()))), ((), ()))).bind fun z15 =>
    match z15 with
    | .inl x16 =>
      if 0 ≤ x16.1.2.2.1 then
        ((x16.1.1.2.2.2.1)[(x16.1.2.2.1).toNat]?).bind fun y17 =>
        let v18 := (IntKind.i64.wrap (y17.2.1 - x16.1.2.1))
        some ((x16.1.2.2.1, v18, ()), ())
      else none
    | .inr z15_ =>
      none
  | .inr z6_ =>
    none
abbrev C_spec_l12Turn : Con := ⟨P_spec_l12Turn, R_spec_l12Turn, F_spec_l12Turn, false⟩
abbrev G_spec_l12Turn : Env := []
theorem g_spec_l12Turn : EnvOk Tryz.prog G_spec_l12Turn := env_nil
abbrev c_spec_l12Turn_8 : Cut := ⟨i_spec_l12Turn_8, o_spec_l12Turn_8, fun x => iterF l_spec_l12Turn_8 lots x⟩
theorem t_spec_l12Turn_8 (rec x) : run T G_spec_l12Turn [] (nav Tryz.f53 [1, 1, 1, 1, 1, 0, 0, 0]) (mk 65 i_spec_l12Turn_8 x) (loopK i_spec_l12Turn_8 o_spec_l12Turn_8 rec) = l_spec_l12Turn_8 rec x := by kernel_rfl
theorem k_spec_l12Turn_8 : CutOk Tryz.prog 65 (.loop (nav Tryz.f53 [1, 1, 1, 1, 1, 0, 0, 0])) c_spec_l12Turn_8 :=
  loop_cut (L := []) hT g_spec_l12Turn t_spec_l12Turn_8 (plain_ok (by kernel_rfl)) _
abbrev c_spec_l12Turn_3 : Cut := ⟨i_spec_l12Turn_3, o_spec_l12Turn_3, fun x => iterF l_spec_l12Turn_3 lots x⟩
theorem t_spec_l12Turn_3 (rec x) : run T G_spec_l12Turn [] (nav Tryz.f53 [1, 1, 0, 1, 0, 0]) (mk 65 i_spec_l12Turn_3 x) (loopK i_spec_l12Turn_3 o_spec_l12Turn_3 rec) = l_spec_l12Turn_3 rec x := by kernel_rfl
theorem k_spec_l12Turn_3 : CutOk Tryz.prog 65 (.loop (nav Tryz.f53 [1, 1, 0, 1, 0, 0])) c_spec_l12Turn_3 :=
  loop_cut (L := []) hT g_spec_l12Turn t_spec_l12Turn_3 (plain_ok (by kernel_rfl)) _
theorem r_spec_l12Turn (x) : runFn T G_spec_l12Turn [(8, c_spec_l12Turn_8), (3, c_spec_l12Turn_3)] Tryz.f53 P_spec_l12Turn R_spec_l12Turn x = F_spec_l12Turn x := by kernel_rfl
theorem s_spec_l12Turn : CallsOk Tryz.prog 53 C_spec_l12Turn :=
  fn_calls (L := [(8, c_spec_l12Turn_8), (3, c_spec_l12Turn_3)]) hT g_spec_l12Turn Tryz.f53 (by kernel_rfl) (by kernel_rfl) (by kernel_rfl) (seq_ok (plain_ok (by kernel_rfl)) (seq_ok (plain_ok (by kernel_rfl)) (seq_ok (seq_ok (plain_ok (by kernel_rfl)) (block_ok (by kernel_rfl) (loop_ok (by kernel_rfl) k_spec_l12Turn_3))) (seq_ok (plain_ok (by kernel_rfl)) (seq_ok (plain_ok (by kernel_rfl)) (seq_ok (block_ok (by kernel_rfl) (loop_ok (by kernel_rfl) k_spec_l12Turn_8)) (plain_ok (by kernel_rfl)))))))) r_spec_l12Turn
/-! spec.l12Fault -/
abbrev P_spec_l12Fault : List PK := [.ptr Y30]
abbrev R_spec_l12Fault : List VK := [.s (.dat YI)]
abbrev i_spec_l12Fault_7 : Shp := { slots := [(0, .s (.pd Y30)), (4, .s (.dat YI))], boxes := [], rows := [] }
abbrev o_spec_l12Fault_7 : List (Ex × Shp) := [(.exit 0, { slots := [(0, .s (.pd Y30))], boxes := [], rows := [] }), (.ret, { slots := [(2, .s (.dat YI))], boxes := [], rows := [] })]
def l_spec_l12Fault_7 (rec : i_spec_l12Fault_7.den → Option (denO o_spec_l12Fault_7)) (u7 : i_spec_l12Fault_7.den) : Option (denO o_spec_l12Fault_7) :=
  let v7 := ((u7.1.1.2.2.1.length : Nat) : Int)
  if (ltI u7.1.2.1 v7) then
    if 0 ≤ u7.1.2.1 then
      ((u7.1.1.2.2.1)[(u7.1.2.1).toNat]?).bind fun y8 =>
      (F_spec_l8Fault (y8, ())).bind fun r9 =>
      if (r9.1.1 != (0 : Int)) then
        some (.inr (.inl ((r9.1.1, ()), ((), ()))))
      else
        let v10 := (IntKind.i64.wrap (u7.1.2.1 + (1 : Int)))
        rec ((u7.1.1, (v10, ())), ((), ()))
    else none
  else
    some (.inl ((u7.1.1, ()), ((), ())))
def L_spec_l12Fault_7 (x : i_spec_l12Fault_7.den) : Option (denO o_spec_l12Fault_7) := iterF l_spec_l12Fault_7 lots x
def F_spec_l12Fault (x : denP P_spec_l12Fault) : Option (denV R_spec_l12Fault × denQ P_spec_l12Fault) :=
  (F_spec_l6Fault (x.1.1, ())).bind fun r1 =>
  if (r1.1.1 != (0 : Int)) then
    some ((r1.1.1, ()), ())
  else
    (F_spec_l7Whole (x.1.2.1, ())).bind fun r2 =>
    if (!r2.1.1) = false then
      let v3 := ((x.1.2.2.1.length : Nat) : Int)
      let v4 := ((x.1.1.1.length : Nat) : Int)
      if (v3 != v4) then
        some (((1 : Int), ()), ())
      else
        (L_spec_l12Fault_7 ((x.1, ((0 : Int), ())), ((), ()))).bind fun z11 =>
        match z11 with
        | .inl x12 =>
          (F_spec_l1In (x12.1.1.2.2.2.2.2.1, (0 : Int), (1000000 : Int), ())).bind fun r13 =>
          if (!r13.1.1) then
            some (((3 : Int), ()), ())
          else
            (F_spec_l12Turn (x12.1.1.1, x12.1.1.2.2.2.2.2.1, ())).bind fun r14 =>
            if (x12.1.1.2.2.2.1 != r14.1.1) = false then
              if (x12.1.1.2.2.2.2.1 != r14.1.2.1) then
                some (((1 : Int), ()), ())
              else
                some (((0 : Int), ()), ())
            else
              some (((1 : Int), ()), ())
        | .inr z11_ =>
          match z11_ with
          | .inl x15 =>
            some ((x15.1.1, ()), ())
          | .inr z11__ =>
            none
    else
      some (((1 : Int), ()), ())
abbrev C_spec_l12Fault : Con := ⟨P_spec_l12Fault, R_spec_l12Fault, F_spec_l12Fault, false⟩
abbrev G_spec_l12Fault : Env := [(53, C_spec_l12Turn), (109, C_spec_l6Fault), (110, C_spec_l7Whole), (111, C_spec_l8Fault), (112, C_spec_l1In)]
theorem g_spec_l12Fault : EnvOk Tryz.prog G_spec_l12Fault := (env_cons s_spec_l12Turn (env_cons s_spec_l6Fault (env_cons s_spec_l7Whole (env_cons s_spec_l8Fault (env_cons s_spec_l1In env_nil)))))
abbrev c_spec_l12Fault_7 : Cut := ⟨i_spec_l12Fault_7, o_spec_l12Fault_7, fun x => iterF l_spec_l12Fault_7 lots x⟩
theorem t_spec_l12Fault_7 (rec x) : run T G_spec_l12Fault [] (nav Tryz.f51 [1, 1, 1, 0, 1, 0, 0]) (mk 85 i_spec_l12Fault_7 x) (loopK i_spec_l12Fault_7 o_spec_l12Fault_7 rec) = l_spec_l12Fault_7 rec x := by kernel_rfl
theorem k_spec_l12Fault_7 : CutOk Tryz.prog 85 (.loop (nav Tryz.f51 [1, 1, 1, 0, 1, 0, 0])) c_spec_l12Fault_7 :=
  loop_cut (L := []) hT g_spec_l12Fault t_spec_l12Fault_7 (plain_ok (by kernel_rfl)) _
theorem r_spec_l12Fault (x) : runFn T G_spec_l12Fault [(7, c_spec_l12Fault_7)] Tryz.f51 P_spec_l12Fault R_spec_l12Fault x = F_spec_l12Fault x := by kernel_rfl
theorem s_spec_l12Fault : CallsOk Tryz.prog 51 C_spec_l12Fault :=
  fn_calls (L := [(7, c_spec_l12Fault_7)]) hT g_spec_l12Fault Tryz.f51 (by kernel_rfl) (by kernel_rfl) (by kernel_rfl) (seq_ok (plain_ok (by kernel_rfl)) (seq_ok (plain_ok (by kernel_rfl)) (seq_ok (plain_ok (by kernel_rfl)) (seq_ok (seq_ok (plain_ok (by kernel_rfl)) (block_ok (by kernel_rfl) (loop_ok (by kernel_rfl) k_spec_l12Fault_7))) (plain_ok (by kernel_rfl)))))) r_spec_l12Fault
/-! spec.l16Steps -/
abbrev P_spec_l16Steps : List PK := [.ptr Y30, .val YI]
abbrev R_spec_l16Steps : List VK := [.s (.dat .bool)]
def F_spec_l16Steps (x : denP P_spec_l16Steps) : Option (denV R_spec_l16Steps × denQ P_spec_l16Steps) :=
  (F_spec_l1In (x.2.1, (0 : Int), (200 : Int), ())).bind fun r1 =>
  if r1.1.1 = true then
    let v2 := (IntKind.i64.wrap (x.1.2.2.2.2.2.1 + x.2.1))
    some (((leI v2 (1000000 : Int)), ()), ())
  else
    some ((false, ()), ())
abbrev C_spec_l16Steps : Con := ⟨P_spec_l16Steps, R_spec_l16Steps, F_spec_l16Steps, false⟩
abbrev G_spec_l16Steps : Env := [(112, C_spec_l1In)]
theorem g_spec_l16Steps : EnvOk Tryz.prog G_spec_l16Steps := (env_cons s_spec_l1In env_nil)
theorem r_spec_l16Steps (x) : runFn T G_spec_l16Steps [] Tryz.f52 P_spec_l16Steps R_spec_l16Steps x = F_spec_l16Steps x := by kernel_rfl
theorem s_spec_l16Steps : CallsOk Tryz.prog 52 C_spec_l16Steps :=
  fn_calls (L := []) hT g_spec_l16Steps Tryz.f52 (by kernel_rfl) (by kernel_rfl) (by kernel_rfl) (plain_ok (by kernel_rfl)) r_spec_l16Steps
/-! spec.TraceOf -/
abbrev P_spec_TraceOf : List PK := [.val Y30, .val YI]
abbrev R_spec_TraceOf : List VK := [.g [.dat YI, .own 2 YI]]
abbrev i_spec_TraceOf_8 : Shp := { slots := [(1, .s (.dat YI)), (2, .s (.ptr 2 0)), (4, .s (.ptr 4 0)), (6, .s (.ptr 6 0)), (7, .s (.dat YI))], boxes := [(2, [.dat Y22, .dat Y23, .dat Y24, .dat Y24, .dat Y28, .dat Y29, .dat YI, .dat YI, .dat YI]), (4, [.dat YI, .own 2 YI]), (6, [.dat YI, .own 2 YI])], rows := [] }
abbrev o_spec_TraceOf_8 : List (Ex × Shp) := [(.exit 0, { slots := [(4, .s (.ptr 4 0)), (6, .s (.ptr 6 0))], boxes := [(4, [.dat YI, .own 2 YI]), (6, [.dat YI, .own 2 YI])], rows := [] })]
def l_spec_TraceOf_8 (rec : i_spec_TraceOf_8.den → Option (denO o_spec_TraceOf_8)) (u8 : i_spec_TraceOf_8.den) : Option (denO o_spec_TraceOf_8) :=
  if (ltI u8.1.2.2.2.2.1 u8.1.1) then
    let v5 := (IntKind.i64.wrap (u8.2.1.1.2.2.2.2.2.2.2.2.1 + u8.1.2.2.2.2.1))
    (F_spec_l12Turn ((u8.2.1.1.1, (u8.2.1.1.2.1, (u8.2.1.1.2.2.1, (u8.2.1.1.2.2.2.1, ())))), v5, ())).bind fun r6 =>
    if 0 ≤ r6.1.1 then
      ((u8.2.1.1.2.2.2.1)[(r6.1.1).toNat]?).bind fun y7 =>
      if (u8.2.1.2.2.1.2.1.length + [y7.1].length) * 8 ≤ 140737488355328 then
        let v8 := (u8.2.1.2.2.1.2.1 ++ [y7.1])
        let v9 := (IntKind.i64.wrap (u8.1.2.2.2.2.1 + (1 : Int)))
        rec ((u8.1.1, ((), ((), ((), (v9, ()))))), (((u8.2.1.1.1, (u8.2.1.1.2.1, (u8.2.1.1.2.2.1, (u8.2.1.1.2.2.2.1, (u8.2.1.1.2.2.2.2.1, (u8.2.1.1.2.2.2.2.2.1, (u8.2.1.1.2.2.2.2.2.2.1, (u8.2.1.1.2.2.2.2.2.2.2.1, (u8.2.1.1.2.2.2.2.2.2.2.2.1, ()))))))))), ((u8.2.1.2.1.1, (u8.2.1.2.1.2.1, ())), ((u8.2.1.2.2.1.1, (v8, ())), ()))), ()))
      else none
    else none
  else
    some (.inl (((), ((), ())), (((u8.2.1.2.1.1, (u8.2.1.2.1.2.1, ())), ((u8.2.1.2.2.1.1, (u8.2.1.2.2.1.2.1, ())), ())), ())))
def L_spec_TraceOf_8 (x : i_spec_TraceOf_8.den) : Option (denO o_spec_TraceOf_8) := iterF l_spec_TraceOf_8 lots x
def F_spec_TraceOf (x : denP P_spec_TraceOf) : Option (denV R_spec_TraceOf × denQ P_spec_TraceOf) :=
  (F_spec_l12Fault (x.1, ())).bind fun r1 =>
  if (r1.1.1 != (0 : Int)) then
    some (((r1.1.1, (([] : List (den YI)), ())), ()), ())
  else
    (F_spec_l16Steps (x.1, x.2.1, ())).bind fun r2 =>
    if (!r2.1.1) then
      some ((((3 : Int), (([] : List (den YI)), ())), ()), ())
    else
      (L_spec_TraceOf_8 ((x.2.1, ((), ((), ((), ((0 : Int), ()))))), (((x.1.1.1, (x.1.1.2.1, (x.1.1.2.2.1, (x.1.1.2.2.2.1, (x.1.2.1, (x.1.2.2.1, (x.1.2.2.2.1, (x.1.2.2.2.2.1, (x.1.2.2.2.2.2.1, ()))))))))), (((0 : Int), (([] : List (den YI)), ())), (((0 : Int), (([] : List (den YI)), ())), ()))), ()))).bind fun z10 =>
      match z10 with
      | .inl x11 =>
        some (((x11.2.1.2.1.1, (x11.2.1.2.1.2.1, ())), ()), ())
      | .inr z10_ =>
        none
abbrev C_spec_TraceOf : Con := ⟨P_spec_TraceOf, R_spec_TraceOf, F_spec_TraceOf, false⟩
abbrev G_spec_TraceOf : Env := [(51, C_spec_l12Fault), (52, C_spec_l16Steps), (53, C_spec_l12Turn)]
theorem g_spec_TraceOf : EnvOk Tryz.prog G_spec_TraceOf := (env_cons s_spec_l12Fault (env_cons s_spec_l16Steps (env_cons s_spec_l12Turn env_nil)))
abbrev c_spec_TraceOf_8 : Cut := ⟨i_spec_TraceOf_8, o_spec_TraceOf_8, fun x => iterF l_spec_TraceOf_8 lots x⟩
theorem t_spec_TraceOf_8 (rec x) : run T G_spec_TraceOf [] (nav Tryz.f10 [1, 1, 1, 1, 0, 1, 0, 0]) (mk 47 i_spec_TraceOf_8 x) (loopK i_spec_TraceOf_8 o_spec_TraceOf_8 rec) = l_spec_TraceOf_8 rec x := by kernel_rfl
theorem k_spec_TraceOf_8 : CutOk Tryz.prog 47 (.loop (nav Tryz.f10 [1, 1, 1, 1, 0, 1, 0, 0])) c_spec_TraceOf_8 :=
  loop_cut (L := []) hT g_spec_TraceOf t_spec_TraceOf_8 (plain_ok (by kernel_rfl)) _
theorem r_spec_TraceOf (x) : runFn T G_spec_TraceOf [(8, c_spec_TraceOf_8)] Tryz.f10 P_spec_TraceOf R_spec_TraceOf x = F_spec_TraceOf x := by kernel_rfl
theorem s_spec_TraceOf : CallsOk Tryz.prog 10 C_spec_TraceOf :=
  fn_calls (L := [(8, c_spec_TraceOf_8)]) hT g_spec_TraceOf Tryz.f10 (by kernel_rfl) (by kernel_rfl) (by kernel_rfl) (seq_ok (plain_ok (by kernel_rfl)) (seq_ok (plain_ok (by kernel_rfl)) (seq_ok (plain_ok (by kernel_rfl)) (seq_ok (plain_ok (by kernel_rfl)) (seq_ok (seq_ok (plain_ok (by kernel_rfl)) (block_ok (by kernel_rfl) (loop_ok (by kernel_rfl) k_spec_TraceOf_8))) (plain_ok (by kernel_rfl))))))) r_spec_TraceOf
/-! impl.within -/
abbrev P_impl_within : List PK := [.val YI, .val YI, .val YI]
abbrev R_impl_within : List VK := [.s (.dat .bool)]
def F_impl_within (x : denP P_impl_within) : Option (denV R_impl_within × denQ P_impl_within) :=
  if (leI x.2.1 x.1) = true then
    some (((leI x.1 x.2.2.1), ()), ())
  else
    some ((false, ()), ())
abbrev C_impl_within : Con := ⟨P_impl_within, R_impl_within, F_impl_within, false⟩
abbrev G_impl_within : Env := []
theorem g_impl_within : EnvOk Tryz.prog G_impl_within := env_nil
theorem r_impl_within (x) : runFn T G_impl_within [] Tryz.f116 P_impl_within R_impl_within x = F_impl_within x := by kernel_rfl
theorem s_impl_within : CallsOk Tryz.prog 116 C_impl_within :=
  fn_calls (L := []) hT g_impl_within Tryz.f116 (by kernel_rfl) (by kernel_rfl) (by kernel_rfl) (plain_ok (by kernel_rfl)) r_impl_within
/-! (*impl.Policy).ownFault -/
abbrev P_impl_Policy_ownFault : List PK := [.ptr Y26]
abbrev R_impl_Policy_ownFault : List VK := [.s (.dat YI)]
abbrev i_impl_Policy_ownFault_10 : Shp := { slots := [(3, .s (.mp)), (4, .s (.dat .bool)), (20, .s (.dat Y22)), (21, .s (.dat YI)), (22, .s (.dat YI)), (30, .s (.dat Y28)), (31, .s (.dat YI)), (32, .s (.dat YI))], boxes := [], rows := [] }
abbrev o_impl_Policy_ownFault_10 : List (Ex × Shp) := [(.exit 2, { slots := [(3, .s (.mp)), (4, .s (.dat .bool)), (20, .s (.dat Y22)), (21, .s (.dat YI)), (22, .s (.dat YI))], boxes := [], rows := [] }), (.ret, { slots := [(2, .s (.dat YI))], boxes := [], rows := [] })]
def l_impl_Policy_ownFault_10 (rec : i_impl_Policy_ownFault_10.den → Option (denO o_impl_Policy_ownFault_10)) (u10 : i_impl_Policy_ownFault_10.den) : Option (denO o_impl_Policy_ownFault_10) :=
  if (ltI u10.1.2.2.2.2.2.2.2.1 u10.1.2.2.2.2.2.2.1) then
    if 0 ≤ u10.1.2.2.2.2.2.2.2.1 then
      ((u10.1.2.2.2.2.2.1)[(u10.1.2.2.2.2.2.2.2.1).toNat]?).bind fun y17 =>
      (F_impl_within (y17, (0 : Int), (23 : Int), ())).bind fun r18 =>
      if (!r18.1.1) then
        some (.inr (.inl (((3 : Int), ()), ((), ()))))
      else
        if u10.1.2.1 = false then
          let v19 := (IntKind.i64.wrap (u10.1.2.2.2.2.2.2.2.1 + (1 : Int)))
          rec (((setM u10.1.1 y17 true), ((getM u10.1.1 y17), (u10.1.2.2.1, (u10.1.2.2.2.1, (u10.1.2.2.2.2.1, (u10.1.2.2.2.2.2.1, (u10.1.2.2.2.2.2.2.1, (v19, ())))))))), ((), ()))
        else
          let v20 := (IntKind.i64.wrap (u10.1.2.2.2.2.2.2.2.1 + (1 : Int)))
          rec (((setM u10.1.1 y17 true), (true, (u10.1.2.2.1, (u10.1.2.2.2.1, (u10.1.2.2.2.2.1, (u10.1.2.2.2.2.2.1, (u10.1.2.2.2.2.2.2.1, (v20, ())))))))), ((), ()))
    else none
  else
    some (.inl ((u10.1.1, (u10.1.2.1, (u10.1.2.2.1, (u10.1.2.2.2.1, (u10.1.2.2.2.2.1, ()))))), ((), ())))
def L_impl_Policy_ownFault_10 (x : i_impl_Policy_ownFault_10.den) : Option (denO o_impl_Policy_ownFault_10) := iterF l_impl_Policy_ownFault_10 lots x
abbrev i_impl_Policy_ownFault_5 : Shp := { slots := [(3, .s (.mp)), (4, .s (.dat .bool)), (20, .s (.dat Y22)), (21, .s (.dat YI)), (22, .s (.dat YI))], boxes := [], rows := [] }
abbrev o_impl_Policy_ownFault_5 : List (Ex × Shp) := [(.exit 0, { slots := [(4, .s (.dat .bool))], boxes := [], rows := [] }), (.ret, { slots := [(2, .s (.dat YI))], boxes := [], rows := [] })]
def l_impl_Policy_ownFault_5 (rec : i_impl_Policy_ownFault_5.den → Option (denO o_impl_Policy_ownFault_5)) (u5 : i_impl_Policy_ownFault_5.den) : Option (denO o_impl_Policy_ownFault_5) :=
  if (ltI u5.1.2.2.2.2.1 u5.1.2.2.2.1) then
    if 0 ≤ u5.1.2.2.2.2.1 then
      ((u5.1.2.2.1)[(u5.1.2.2.2.2.1).toNat]?).bind fun y11 =>
      let v12 := ((y11.length : Nat) : Int)
      (F_impl_within (v12, (1 : Int), (5 : Int), ())).bind fun r13 =>
      if (!r13.1.1) then
        some (.inr (.inl (((2 : Int), ()), ((), ()))))
      else
        let v14 := ((y11.length : Nat) : Int)
        (L_impl_Policy_ownFault_10 ((u5.1.1, (u5.1.2.1, (u5.1.2.2.1, (u5.1.2.2.2.1, (u5.1.2.2.2.2.1, (y11, (v14, ((0 : Int), ())))))))), ((), ()))).bind fun z21 =>
        match z21 with
        | .inl x22 =>
          let v23 := (IntKind.i64.wrap (x22.1.2.2.2.2.1 + (1 : Int)))
          rec ((x22.1.1, (x22.1.2.1, (x22.1.2.2.1, (x22.1.2.2.2.1, (v23, ()))))), ((), ()))
        | .inr z21_ =>
          match z21_ with
          | .inl x24 =>
            some (.inr (.inl ((x24.1.1, ()), ((), ()))))
          | .inr z21__ =>
            none
    else none
  else
    some (.inl ((u5.1.2.1, ()), ((), ())))
def L_impl_Policy_ownFault_5 (x : i_impl_Policy_ownFault_5.den) : Option (denO o_impl_Policy_ownFault_5) := iterF l_impl_Policy_ownFault_5 lots x
def F_impl_Policy_ownFault (x : denP P_impl_Policy_ownFault) : Option (denV R_impl_Policy_ownFault × denQ P_impl_Policy_ownFault) :=
  let v1 := ((x.1.1.length : Nat) : Int)
  (F_impl_within (v1, (1 : Int), (3 : Int), ())).bind fun r2 =>
  if (!r2.1.1) then
    some (((2 : Int), ()), ())
  else
    let v3 := ((x.1.1.length : Nat) : Int)
    (L_impl_Policy_ownFault_5 ((([] : List (Int × Bool)), (false, (x.1.1, (v3, ((0 : Int), ()))))), ((), ()))).bind fun z25 =>
    match z25 with
    | .inl x26 =>
      if x26.1.1 then
        some (((6 : Int), ()), ())
      else
        some (((0 : Int), ()), ())
    | .inr z25_ =>
      match z25_ with
      | .inl x27 =>
        some ((x27.1.1, ()), ())
      | .inr z25__ =>
        none
abbrev C_impl_Policy_ownFault : Con := ⟨P_impl_Policy_ownFault, R_impl_Policy_ownFault, F_impl_Policy_ownFault, false⟩
abbrev G_impl_Policy_ownFault : Env := [(116, C_impl_within)]
theorem g_impl_Policy_ownFault : EnvOk Tryz.prog G_impl_Policy_ownFault := (env_cons s_impl_within env_nil)
abbrev c_impl_Policy_ownFault_10 : Cut := ⟨i_impl_Policy_ownFault_10, o_impl_Policy_ownFault_10, fun x => iterF l_impl_Policy_ownFault_10 lots x⟩
theorem t_impl_Policy_ownFault_10 (rec x) : run T G_impl_Policy_ownFault [] (nav Tryz.f153 [1, 1, 1, 0, 1, 0, 0, 1, 1, 0, 0, 1, 1, 1, 0, 0]) (mk 50 i_impl_Policy_ownFault_10 x) (loopK i_impl_Policy_ownFault_10 o_impl_Policy_ownFault_10 rec) = l_impl_Policy_ownFault_10 rec x := by kernel_rfl
theorem k_impl_Policy_ownFault_10 : CutOk Tryz.prog 50 (.loop (nav Tryz.f153 [1, 1, 1, 0, 1, 0, 0, 1, 1, 0, 0, 1, 1, 1, 0, 0])) c_impl_Policy_ownFault_10 :=
  loop_cut (L := []) hT g_impl_Policy_ownFault t_impl_Policy_ownFault_10 (plain_ok (by kernel_rfl)) _
abbrev c_impl_Policy_ownFault_5 : Cut := ⟨i_impl_Policy_ownFault_5, o_impl_Policy_ownFault_5, fun x => iterF l_impl_Policy_ownFault_5 lots x⟩
theorem t_impl_Policy_ownFault_5 (rec x) : run T G_impl_Policy_ownFault [(10, c_impl_Policy_ownFault_10)] (nav Tryz.f153 [1, 1, 1, 0, 1, 0, 0]) (mk 50 i_impl_Policy_ownFault_5 x) (loopK i_impl_Policy_ownFault_5 o_impl_Policy_ownFault_5 rec) = l_impl_Policy_ownFault_5 rec x := by kernel_rfl
theorem k_impl_Policy_ownFault_5 : CutOk Tryz.prog 50 (.loop (nav Tryz.f153 [1, 1, 1, 0, 1, 0, 0])) c_impl_Policy_ownFault_5 :=
  loop_cut (L := [(10, c_impl_Policy_ownFault_10)]) hT g_impl_Policy_ownFault t_impl_Policy_ownFault_5 (seq_ok (plain_ok (by kernel_rfl)) (seq_ok (plain_ok (by kernel_rfl)) (seq_ok (block_ok (by kernel_rfl) (seq_ok (plain_ok (by kernel_rfl)) (seq_ok (plain_ok (by kernel_rfl)) (seq_ok (plain_ok (by kernel_rfl)) (block_ok (by kernel_rfl) (loop_ok (by kernel_rfl) k_impl_Policy_ownFault_10)))))) (plain_ok (by kernel_rfl))))) _
theorem r_impl_Policy_ownFault (x) : runFn T G_impl_Policy_ownFault [(10, c_impl_Policy_ownFault_10), (5, c_impl_Policy_ownFault_5)] Tryz.f153 P_impl_Policy_ownFault R_impl_Policy_ownFault x = F_impl_Policy_ownFault x := by kernel_rfl
theorem s_impl_Policy_ownFault : CallsOk Tryz.prog 153 C_impl_Policy_ownFault :=
  fn_calls (L := [(10, c_impl_Policy_ownFault_10), (5, c_impl_Policy_ownFault_5)]) hT g_impl_Policy_ownFault Tryz.f153 (by kernel_rfl) (by kernel_rfl) (by kernel_rfl) (seq_ok (plain_ok (by kernel_rfl)) (seq_ok (plain_ok (by kernel_rfl)) (seq_ok (plain_ok (by kernel_rfl)) (seq_ok (seq_ok (plain_ok (by kernel_rfl)) (block_ok (by kernel_rfl) (loop_ok (by kernel_rfl) k_impl_Policy_ownFault_5))) (plain_ok (by kernel_rfl)))))) r_impl_Policy_ownFault
/-! (*impl.Policy).isGuest -/
abbrev P_impl_Policy_isGuest : List PK := [.ptr Y26, .val YI]
abbrev R_impl_Policy_isGuest : List VK := [.s (.dat .bool)]
def F_impl_Policy_isGuest (x : denP P_impl_Policy_isGuest) : Option (denV R_impl_Policy_isGuest × denQ P_impl_Policy_isGuest) :=
  let v1 := ((x.1.1.length : Nat) : Int)
  let v2 := (IntKind.i64.wrap (v1 - (1 : Int)))
  (F_impl_within (x.2.1, (0 : Int), v2, ())).bind fun r3 =>
  some ((r3.1.1, ()), ())
abbrev C_impl_Policy_isGuest : Con := ⟨P_impl_Policy_isGuest, R_impl_Policy_isGuest, F_impl_Policy_isGuest, false⟩
abbrev G_impl_Policy_isGuest : Env := [(116, C_impl_within)]
theorem g_impl_Policy_isGuest : EnvOk Tryz.prog G_impl_Policy_isGuest := (env_cons s_impl_within env_nil)
theorem r_impl_Policy_isGuest (x) : runFn T G_impl_Policy_isGuest [] Tryz.f103 P_impl_Policy_isGuest R_impl_Policy_isGuest x = F_impl_Policy_isGuest x := by kernel_rfl
theorem s_impl_Policy_isGuest : CallsOk Tryz.prog 103 C_impl_Policy_isGuest :=
  fn_calls (L := []) hT g_impl_Policy_isGuest Tryz.f103 (by kernel_rfl) (by kernel_rfl) (by kernel_rfl) (plain_ok (by kernel_rfl)) r_impl_Policy_isGuest
/-! (*impl.Policy).linkFault -/
abbrev P_impl_Policy_linkFault : List PK := [.ptr Y26, .val YI, .val YI]
abbrev R_impl_Policy_linkFault : List VK := [.s (.dat YI)]
def F_impl_Policy_linkFault (x : denP P_impl_Policy_linkFault) : Option (denV R_impl_Policy_linkFault × denQ P_impl_Policy_linkFault) :=
  (F_impl_Policy_isGuest (x.1, x.2.1, ())).bind fun r1 =>
  if (!r1.1.1) = false then
    (F_impl_Policy_isGuest (x.1, x.2.2.1, ())).bind fun r2 =>
    if (!r2.1.1) then
      some (((4 : Int), ()), ())
    else
      if (x.2.1 == x.2.2.1) then
        some (((1 : Int), ()), ())
      else
        some (((0 : Int), ()), ())
  else
    some (((4 : Int), ()), ())
abbrev C_impl_Policy_linkFault : Con := ⟨P_impl_Policy_linkFault, R_impl_Policy_linkFault, F_impl_Policy_linkFault, false⟩
abbrev G_impl_Policy_linkFault : Env := [(103, C_impl_Policy_isGuest)]
theorem g_impl_Policy_linkFault : EnvOk Tryz.prog G_impl_Policy_linkFault := (env_cons s_impl_Policy_isGuest env_nil)
theorem r_impl_Policy_linkFault (x) : runFn T G_impl_Policy_linkFault [] Tryz.f170 P_impl_Policy_linkFault R_impl_Policy_linkFault x = F_impl_Policy_linkFault x := by kernel_rfl
theorem s_impl_Policy_linkFault : CallsOk Tryz.prog 170 C_impl_Policy_linkFault :=
  fn_calls (L := []) hT g_impl_Policy_linkFault Tryz.f170 (by kernel_rfl) (by kernel_rfl) (by kernel_rfl) (plain_ok (by kernel_rfl)) r_impl_Policy_linkFault
/-! slices.Index[int64,int64] -/
abbrev P_slices_Index_int64 : List PK := [.val Y28, .val YI]
abbrev R_slices_Index_int64 : List VK := [.s (.dat YI)]
abbrev i_slices_Index_int64_2 : Shp := { slots := [(0, .s (.dat Y28)), (1, .s (.dat YI)), (7, .s (.dat YI)), (8, .s (.dat YI))], boxes := [], rows := [] }
abbrev o_slices_Index_int64_2 : List (Ex × Shp) := [(.exit 0, { slots := [], boxes := [], rows := [] }), (.ret, { slots := [(4, .s (.dat YI))], boxes := [], rows := [] })]
def l_slices_Index_int64_2 (rec : i_slices_Index_int64_2.den → Option (denO o_slices_Index_int64_2)) (u2 : i_slices_Index_int64_2.den) : Option (denO o_slices_Index_int64_2) :=
  if (ltI u2.1.2.2.2.1 u2.1.2.2.1) then
    if 0 ≤ u2.1.2.2.2.1 then
      ((u2.1.1)[(u2.1.2.2.2.1).toNat]?).bind fun y3 =>
      if (u2.1.2.1 == y3) then
        some (.inr (.inl ((u2.1.2.2.2.1, ()), ((), ()))))
      else
        let v4 := (IntKind.i64.wrap (u2.1.2.2.2.1 + (1 : Int)))
        rec ((u2.1.1, (u2.1.2.1, (u2.1.2.2.1, (v4, ())))), ((), ()))
    else none
  else
    some (.inl ((), ((), ())))
def L_slices_Index_int64_2 (x : i_slices_Index_int64_2.den) : Option (denO o_slices_Index_int64_2) := iterF l_slices_Index_int64_2 lots x
def F_slices_Index_int64 (x : denP P_slices_Index_int64) : Option (denV R_slices_Index_int64 × denQ P_slices_Index_int64) :=
  let v1 := ((x.1.length : Nat) : Int)
  (L_slices_Index_int64_2 ((x.1, (x.2.1, (v1, ((0 : Int), ())))), ((), ()))).bind fun z5 =>
  match z5 with
  | .inl x6 =>
    some (((-1 : Int), ()), ())
  | .inr z5_ =>
    match z5_ with
    | .inl x7 =>
      some ((x7.1.1, ()), ())
    | .inr z5__ =>
      none
abbrev C_slices_Index_int64 : Con := ⟨P_slices_Index_int64, R_slices_Index_int64, F_slices_Index_int64, false⟩
abbrev G_slices_Index_int64 : Env := []
theorem g_slices_Index_int64 : EnvOk Tryz.prog G_slices_Index_int64 := env_nil
abbrev c_slices_Index_int64_2 : Cut := ⟨i_slices_Index_int64_2, o_slices_Index_int64_2, fun x => iterF l_slices_Index_int64_2 lots x⟩
theorem t_slices_Index_int64_2 (rec x) : run T G_slices_Index_int64 [] (nav Tryz.f182 [1, 0, 1, 0, 0]) (mk 19 i_slices_Index_int64_2 x) (loopK i_slices_Index_int64_2 o_slices_Index_int64_2 rec) = l_slices_Index_int64_2 rec x := by kernel_rfl
theorem k_slices_Index_int64_2 : CutOk Tryz.prog 19 (.loop (nav Tryz.f182 [1, 0, 1, 0, 0])) c_slices_Index_int64_2 :=
  loop_cut (L := []) hT g_slices_Index_int64 t_slices_Index_int64_2 (plain_ok (by kernel_rfl)) _
theorem r_slices_Index_int64 (x) : runFn T G_slices_Index_int64 [(2, c_slices_Index_int64_2)] Tryz.f182 P_slices_Index_int64 R_slices_Index_int64 x = F_slices_Index_int64 x := by kernel_rfl
theorem s_slices_Index_int64 : CallsOk Tryz.prog 182 C_slices_Index_int64 :=
  fn_calls (L := [(2, c_slices_Index_int64_2)]) hT g_slices_Index_int64 Tryz.f182 (by kernel_rfl) (by kernel_rfl) (by kernel_rfl) (seq_ok (plain_ok (by kernel_rfl)) (seq_ok (seq_ok (plain_ok (by kernel_rfl)) (block_ok (by kernel_rfl) (loop_ok (by kernel_rfl) k_slices_Index_int64_2))) (plain_ok (by kernel_rfl)))) r_slices_Index_int64
/-! slices.Contains[int64,int64] -/
abbrev P_slices_Contains_int64 : List PK := [.val Y28, .val YI]
abbrev R_slices_Contains_int64 : List VK := [.s (.dat .bool)]
def F_slices_Contains_int64 (x : denP P_slices_Contains_int64) : Option (denV R_slices_Contains_int64 × denQ P_slices_Contains_int64) :=
  (F_slices_Index_int64 (x.1, x.2.1, ())).bind fun r1 =>
  some (((leI (0 : Int) r1.1.1), ()), ())
abbrev C_slices_Contains_int64 : Con := ⟨P_slices_Contains_int64, R_slices_Contains_int64, F_slices_Contains_int64, false⟩
abbrev G_slices_Contains_int64 : Env := [(182, C_slices_Index_int64)]
theorem g_slices_Contains_int64 : EnvOk Tryz.prog G_slices_Contains_int64 := (env_cons s_slices_Index_int64 env_nil)
theorem r_slices_Contains_int64 (x) : runFn T G_slices_Contains_int64 [] Tryz.f179 P_slices_Contains_int64 R_slices_Contains_int64 x = F_slices_Contains_int64 x := by kernel_rfl
theorem s_slices_Contains_int64 : CallsOk Tryz.prog 179 C_slices_Contains_int64 :=
  fn_calls (L := []) hT g_slices_Contains_int64 Tryz.f179 (by kernel_rfl) (by kernel_rfl) (by kernel_rfl) (plain_ok (by kernel_rfl)) r_slices_Contains_int64
/-! (*impl.Policy).owner.1 -/
abbrev P_impl_Policy_owner_1 : List PK := [.val Y28, .ptr YI]
abbrev R_impl_Policy_owner_1 : List VK := [.s (.dat .bool)]
def F_impl_Policy_owner_1 (x : denP P_impl_Policy_owner_1) : Option (denV R_impl_Policy_owner_1 × denQ P_impl_Policy_owner_1) :=
  (F_slices_Contains_int64 (x.1, x.2.1, ())).bind fun r1 =>
  some ((r1.1.1, ()), ())
abbrev C_impl_Policy_owner_1 : Con := ⟨P_impl_Policy_owner_1, R_impl_Policy_owner_1, F_impl_Policy_owner_1, false⟩
abbrev G_impl_Policy_owner_1 : Env := [(179, C_slices_Contains_int64)]
theorem g_impl_Policy_owner_1 : EnvOk Tryz.prog G_impl_Policy_owner_1 := (env_cons s_slices_Contains_int64 env_nil)
theorem r_impl_Policy_owner_1 (x) : runFn T G_impl_Policy_owner_1 [] Tryz.f178 P_impl_Policy_owner_1 R_impl_Policy_owner_1 x = F_impl_Policy_owner_1 x := by kernel_rfl
theorem s_impl_Policy_owner_1 : CallsOk Tryz.prog 178 C_impl_Policy_owner_1 :=
  fn_calls (L := []) hT g_impl_Policy_owner_1 Tryz.f178 (by kernel_rfl) (by kernel_rfl) (by kernel_rfl) (plain_ok (by kernel_rfl)) r_impl_Policy_owner_1
/-! slices.IndexFunc[int64,int64] -/
abbrev P_slices_IndexFunc_S_int64_of_impl_Policy_owner_1 : List PK := [.val Y22, .fn 178 [YI]]
abbrev R_slices_IndexFunc_S_int64_of_impl_Policy_owner_1 : List VK := [.s (.dat YI)]
abbrev i_slices_IndexFunc_S_int64_of_impl_Policy_owner_1_2 : Shp := { slots := [(0, .s (.dat Y22)), (1, .s (.fn 178 [YI])), (7, .s (.dat YI)), (8, .s (.dat YI))], boxes := [], rows := [] }
abbrev o_slices_IndexFunc_S_int64_of_impl_Policy_owner_1_2 : List (Ex × Shp) := [(.exit 0, { slots := [], boxes := [], rows := [] }), (.ret, { slots := [(4, .s (.dat YI))], boxes := [], rows := [] })]
def l_slices_IndexFunc_S_int64_of_impl_Policy_owner_1_2 (rec : i_slices_IndexFunc_S_int64_of_impl_Policy_owner_1_2.den → Option (denO o_slices_IndexFunc_S_int64_of_impl_Policy_owner_1_2)) (u2 : i_slices_IndexFunc_S_int64_of_impl_Policy_owner_1_2.den) : Option (denO o_slices_IndexFunc_S_int64_of_impl_Policy_owner_1_2) :=
  if (ltI u2.1.2.2.2.1 u2.1.2.2.1) then
    if 0 ≤ u2.1.2.2.2.1 then
      ((u2.1.1)[(u2.1.2.2.2.1).toNat]?).bind fun y4 =>
      (F_impl_Policy_owner_1 (y4, u2.1.2.1.1, ())).bind fun r5 =>
      if r5.1.1 then
        some (.inr (.inl ((u2.1.2.2.2.1, ()), ((), ()))))
      else
        let v6 := (IntKind.i64.wrap (u2.1.2.2.2.1 + (1 : Int)))
        rec ((u2.1.1, ((u2.1.2.1.1, ()), (u2.1.2.2.1, (v6, ())))), ((), ()))
    else none
  else
    some (.inl ((), ((), ())))
def L_slices_IndexFunc_S_int64_of_impl_Policy_owner_1_2 (x : i_slices_IndexFunc_S_int64_of_impl_Policy_owner_1_2.den) : Option (denO o_slices_IndexFunc_S_int64_of_impl_Policy_owner_1_2) := iterF l_slices_IndexFunc_S_int64_of_impl_Policy_owner_1_2 lots x
def F_slices_IndexFunc_S_int64_of_impl_Policy_owner_1 (x : denP P_slices_IndexFunc_S_int64_of_impl_Policy_owner_1) : Option (denV R_slices_IndexFunc_S_int64_of_impl_Policy_owner_1 × denQ P_slices_IndexFunc_S_int64_of_impl_Policy_owner_1) :=
  let v1 := ((x.1.length : Nat) : Int)
  (L_slices_IndexFunc_S_int64_of_impl_Policy_owner_1_2 ((x.1, ((x.2.1.1, ()), (v1, ((0 : Int), ())))), ((), ()))).bind fun z7 =>
  match z7 with
  | .inl x8 =>
    some (((-1 : Int), ()), ())
  | .inr z7_ =>
    match z7_ with
    | .inl x9 =>
      some ((x9.1.1, ()), ())
    | .inr z7__ =>
      none
abbrev C_slices_IndexFunc_S_int64_of_impl_Policy_owner_1 : Con := ⟨P_slices_IndexFunc_S_int64_of_impl_Policy_owner_1, R_slices_IndexFunc_S_int64_of_impl_Policy_owner_1, F_slices_IndexFunc_S_int64_of_impl_Policy_owner_1, false⟩
abbrev G_slices_IndexFunc_S_int64_of_impl_Policy_owner_1 : Env := [(178, C_impl_Policy_owner_1)]
theorem g_slices_IndexFunc_S_int64_of_impl_Policy_owner_1 : EnvOk Tryz.prog G_slices_IndexFunc_S_int64_of_impl_Policy_owner_1 := (env_cons s_impl_Policy_owner_1 env_nil)
abbrev c_slices_IndexFunc_S_int64_of_impl_Policy_owner_1_2 : Cut := ⟨i_slices_IndexFunc_S_int64_of_impl_Policy_owner_1_2, o_slices_IndexFunc_S_int64_of_impl_Policy_owner_1_2, fun x => iterF l_slices_IndexFunc_S_int64_of_impl_Policy_owner_1_2 lots x⟩
theorem t_slices_IndexFunc_S_int64_of_impl_Policy_owner_1_2 (rec x) : run T G_slices_IndexFunc_S_int64_of_impl_Policy_owner_1 [] (nav Tryz.f177 [1, 0, 1, 0, 0]) (mk 19 i_slices_IndexFunc_S_int64_of_impl_Policy_owner_1_2 x) (loopK i_slices_IndexFunc_S_int64_of_impl_Policy_owner_1_2 o_slices_IndexFunc_S_int64_of_impl_Policy_owner_1_2 rec) = l_slices_IndexFunc_S_int64_of_impl_Policy_owner_1_2 rec x := by kernel_rfl
theorem k_slices_IndexFunc_S_int64_of_impl_Policy_owner_1_2 : CutOk Tryz.prog 19 (.loop (nav Tryz.f177 [1, 0, 1, 0, 0])) c_slices_IndexFunc_S_int64_of_impl_Policy_owner_1_2 :=
  loop_cut (L := []) hT g_slices_IndexFunc_S_int64_of_impl_Policy_owner_1 t_slices_IndexFunc_S_int64_of_impl_Policy_owner_1_2 (plain_ok (by kernel_rfl)) _
theorem r_slices_IndexFunc_S_int64_of_impl_Policy_owner_1 (x) : runFn T G_slices_IndexFunc_S_int64_of_impl_Policy_owner_1 [(2, c_slices_IndexFunc_S_int64_of_impl_Policy_owner_1_2)] Tryz.f177 P_slices_IndexFunc_S_int64_of_impl_Policy_owner_1 R_slices_IndexFunc_S_int64_of_impl_Policy_owner_1 x = F_slices_IndexFunc_S_int64_of_impl_Policy_owner_1 x := by kernel_rfl
theorem s_slices_IndexFunc_S_int64_of_impl_Policy_owner_1 : CallsOk Tryz.prog 177 C_slices_IndexFunc_S_int64_of_impl_Policy_owner_1 :=
  fn_calls (L := [(2, c_slices_IndexFunc_S_int64_of_impl_Policy_owner_1_2)]) hT g_slices_IndexFunc_S_int64_of_impl_Policy_owner_1 Tryz.f177 (by kernel_rfl) (by kernel_rfl) (by kernel_rfl) (seq_ok (plain_ok (by kernel_rfl)) (seq_ok (seq_ok (plain_ok (by kernel_rfl)) (block_ok (by kernel_rfl) (loop_ok (by kernel_rfl) k_slices_IndexFunc_S_int64_of_impl_Policy_owner_1_2))) (plain_ok (by kernel_rfl)))) r_slices_IndexFunc_S_int64_of_impl_Policy_owner_1
/-! (*impl.Policy).owner -/
abbrev P_impl_Policy_owner : List PK := [.ptr Y26, .val YI]
abbrev R_impl_Policy_owner : List VK := [.s (.dat YI)]
def F_impl_Policy_owner (x : denP P_impl_Policy_owner) : Option (denV R_impl_Policy_owner × denQ P_impl_Policy_owner) :=
  (F_slices_IndexFunc_S_int64_of_impl_Policy_owner_1 (x.1.1, (x.2.1, ()), ())).bind fun r1 =>
  some ((r1.1.1, ()), ())
abbrev C_impl_Policy_owner : Con := ⟨P_impl_Policy_owner, R_impl_Policy_owner, F_impl_Policy_owner, false⟩
abbrev G_impl_Policy_owner : Env := [(177, C_slices_IndexFunc_S_int64_of_impl_Policy_owner_1)]
theorem g_impl_Policy_owner : EnvOk Tryz.prog G_impl_Policy_owner := (env_cons s_slices_IndexFunc_S_int64_of_impl_Policy_owner_1 env_nil)
theorem r_impl_Policy_owner (x) : runFn T G_impl_Policy_owner [] Tryz.f171 P_impl_Policy_owner R_impl_Policy_owner x = F_impl_Policy_owner x := by kernel_rfl
theorem s_impl_Policy_owner : CallsOk Tryz.prog 171 C_impl_Policy_owner :=
  fn_calls (L := []) hT g_impl_Policy_owner Tryz.f171 (by kernel_rfl) (by kernel_rfl) (by kernel_rfl) (plain_ok (by kernel_rfl)) r_impl_Policy_owner
/-! (impl.Lane).sits -/
abbrev P_impl_Lane_sits : List PK := [.val Y165, .val YI, .val YI]
abbrev R_impl_Lane_sits : List VK := [.s (.dat .bool)]
def F_impl_Lane_sits (x : denP P_impl_Lane_sits) : Option (denV R_impl_Lane_sits × denQ P_impl_Lane_sits) :=
  if (x.1.1 == x.2.1) = true then
    if (x.1.2.2.2.1 == x.2.2.1) = false then
      if (x.1.2.1 == x.2.1) = true then
        some (((x.1.2.2.2.2.1 == x.2.2.1), ()), ())
      else
        some ((false, ()), ())
    else
      some ((true, ()), ())
  else
    if (x.1.2.1 == x.2.1) = true then
      some (((x.1.2.2.2.2.1 == x.2.2.1), ()), ())
    else
      some ((false, ()), ())
abbrev C_impl_Lane_sits : Con := ⟨P_impl_Lane_sits, R_impl_Lane_sits, F_impl_Lane_sits, false⟩
abbrev G_impl_Lane_sits : Env := []
theorem g_impl_Lane_sits : EnvOk Tryz.prog G_impl_Lane_sits := env_nil
theorem r_impl_Lane_sits (x) : runFn T G_impl_Lane_sits [] Tryz.f174 P_impl_Lane_sits R_impl_Lane_sits x = F_impl_Lane_sits x := by kernel_rfl
theorem s_impl_Lane_sits : CallsOk Tryz.prog 174 C_impl_Lane_sits :=
  fn_calls (L := []) hT g_impl_Lane_sits Tryz.f174 (by kernel_rfl) (by kernel_rfl) (by kernel_rfl) (plain_ok (by kernel_rfl)) r_impl_Lane_sits
/-! (*impl.Policy).laneFault.1 -/
abbrev P_impl_Policy_laneFault_1 : List PK := [.val Y165, .ptr Y165]
abbrev R_impl_Policy_laneFault_1 : List VK := [.s (.dat .bool)]
def F_impl_Policy_laneFault_1 (x : denP P_impl_Policy_laneFault_1) : Option (denV R_impl_Policy_laneFault_1 × denQ P_impl_Policy_laneFault_1) :=
  if (x.1.2.2.1 == x.2.1.2.2.1) = false then
    (F_impl_Lane_sits (x.1, x.2.1.1, x.2.1.2.2.2.1, ())).bind fun r1 =>
    if r1.1.1 = false then
      (F_impl_Lane_sits (x.1, x.2.1.2.1, x.2.1.2.2.2.2.1, ())).bind fun r2 =>
      some ((r2.1.1, ()), ())
    else
      some ((true, ()), ())
  else
    some ((true, ()), ())
abbrev C_impl_Policy_laneFault_1 : Con := ⟨P_impl_Policy_laneFault_1, R_impl_Policy_laneFault_1, F_impl_Policy_laneFault_1, false⟩
abbrev G_impl_Policy_laneFault_1 : Env := [(174, C_impl_Lane_sits)]
theorem g_impl_Policy_laneFault_1 : EnvOk Tryz.prog G_impl_Policy_laneFault_1 := (env_cons s_impl_Lane_sits env_nil)
theorem r_impl_Policy_laneFault_1 (x) : runFn T G_impl_Policy_laneFault_1 [] Tryz.f173 P_impl_Policy_laneFault_1 R_impl_Policy_laneFault_1 x = F_impl_Policy_laneFault_1 x := by kernel_rfl
theorem s_impl_Policy_laneFault_1 : CallsOk Tryz.prog 173 C_impl_Policy_laneFault_1 :=
  fn_calls (L := []) hT g_impl_Policy_laneFault_1 Tryz.f173 (by kernel_rfl) (by kernel_rfl) (by kernel_rfl) (plain_ok (by kernel_rfl)) r_impl_Policy_laneFault_1
/-! slices.IndexFunc[impl.Lane,impl.Lane] -/
abbrev P_slices_IndexFunc_impl_Lane_of_impl_Policy_laneFault_1 : List PK := [.val Y23, .fn 173 [Y165]]
abbrev R_slices_IndexFunc_impl_Lane_of_impl_Policy_laneFault_1 : List VK := [.s (.dat YI)]
abbrev i_slices_IndexFunc_impl_Lane_of_impl_Policy_laneFault_1_2 : Shp := { slots := [(0, .s (.dat Y23)), (1, .s (.fn 173 [Y165])), (7, .s (.dat YI)), (8, .s (.dat YI))], boxes := [], rows := [] }
abbrev o_slices_IndexFunc_impl_Lane_of_impl_Policy_laneFault_1_2 : List (Ex × Shp) := [(.exit 0, { slots := [], boxes := [], rows := [] }), (.ret, { slots := [(4, .s (.dat YI))], boxes := [], rows := [] })]
def l_slices_IndexFunc_impl_Lane_of_impl_Policy_laneFault_1_2 (rec : i_slices_IndexFunc_impl_Lane_of_impl_Policy_laneFault_1_2.den → Option (denO o_slices_IndexFunc_impl_Lane_of_impl_Policy_laneFault_1_2)) (u2 : i_slices_IndexFunc_impl_Lane_of_impl_Policy_laneFault_1_2.den) : Option (denO o_slices_IndexFunc_impl_Lane_of_impl_Policy_laneFault_1_2) :=
  if (ltI u2.1.2.2.2.1 u2.1.2.2.1) then
    if 0 ≤ u2.1.2.2.2.1 then
      ((u2.1.1)[(u2.1.2.2.2.1).toNat]?).bind fun y4 =>
      (F_impl_Policy_laneFault_1 (y4, u2.1.2.1.1, ())).bind fun r5 =>
      if r5.1.1 then
        some (.inr (.inl ((u2.1.2.2.2.1, ()), ((), ()))))
      else
        let v6 := (IntKind.i64.wrap (u2.1.2.2.2.1 + (1 : Int)))
        rec ((u2.1.1, ((u2.1.2.1.1, ()), (u2.1.2.2.1, (v6, ())))), ((), ()))
    else none
  else
    some (.inl ((), ((), ())))
def L_slices_IndexFunc_impl_Lane_of_impl_Policy_laneFault_1_2 (x : i_slices_IndexFunc_impl_Lane_of_impl_Policy_laneFault_1_2.den) : Option (denO o_slices_IndexFunc_impl_Lane_of_impl_Policy_laneFault_1_2) := iterF l_slices_IndexFunc_impl_Lane_of_impl_Policy_laneFault_1_2 lots x
def F_slices_IndexFunc_impl_Lane_of_impl_Policy_laneFault_1 (x : denP P_slices_IndexFunc_impl_Lane_of_impl_Policy_laneFault_1) : Option (denV R_slices_IndexFunc_impl_Lane_of_impl_Policy_laneFault_1 × denQ P_slices_IndexFunc_impl_Lane_of_impl_Policy_laneFault_1) :=
  let v1 := ((x.1.length : Nat) : Int)
  (L_slices_IndexFunc_impl_Lane_of_impl_Policy_laneFault_1_2 ((x.1, ((x.2.1.1, ()), (v1, ((0 : Int), ())))), ((), ()))).bind fun z7 =>
  match z7 with
  | .inl x8 =>
    some (((-1 : Int), ()), ())
  | .inr z7_ =>
    match z7_ with
    | .inl x9 =>
      some ((x9.1.1, ()), ())
    | .inr z7__ =>
      none
abbrev C_slices_IndexFunc_impl_Lane_of_impl_Policy_laneFault_1 : Con := ⟨P_slices_IndexFunc_impl_Lane_of_impl_Policy_laneFault_1, R_slices_IndexFunc_impl_Lane_of_impl_Policy_laneFault_1, F_slices_IndexFunc_impl_Lane_of_impl_Policy_laneFault_1, false⟩
abbrev G_slices_IndexFunc_impl_Lane_of_impl_Policy_laneFault_1 : Env := [(173, C_impl_Policy_laneFault_1)]
theorem g_slices_IndexFunc_impl_Lane_of_impl_Policy_laneFault_1 : EnvOk Tryz.prog G_slices_IndexFunc_impl_Lane_of_impl_Policy_laneFault_1 := (env_cons s_impl_Policy_laneFault_1 env_nil)
abbrev c_slices_IndexFunc_impl_Lane_of_impl_Policy_laneFault_1_2 : Cut := ⟨i_slices_IndexFunc_impl_Lane_of_impl_Policy_laneFault_1_2, o_slices_IndexFunc_impl_Lane_of_impl_Policy_laneFault_1_2, fun x => iterF l_slices_IndexFunc_impl_Lane_of_impl_Policy_laneFault_1_2 lots x⟩
theorem t_slices_IndexFunc_impl_Lane_of_impl_Policy_laneFault_1_2 (rec x) : run T G_slices_IndexFunc_impl_Lane_of_impl_Policy_laneFault_1 [] (nav Tryz.f180 [1, 0, 1, 0, 0]) (mk 19 i_slices_IndexFunc_impl_Lane_of_impl_Policy_laneFault_1_2 x) (loopK i_slices_IndexFunc_impl_Lane_of_impl_Policy_laneFault_1_2 o_slices_IndexFunc_impl_Lane_of_impl_Policy_laneFault_1_2 rec) = l_slices_IndexFunc_impl_Lane_of_impl_Policy_laneFault_1_2 rec x := by kernel_rfl
theorem k_slices_IndexFunc_impl_Lane_of_impl_Policy_laneFault_1_2 : CutOk Tryz.prog 19 (.loop (nav Tryz.f180 [1, 0, 1, 0, 0])) c_slices_IndexFunc_impl_Lane_of_impl_Policy_laneFault_1_2 :=
  loop_cut (L := []) hT g_slices_IndexFunc_impl_Lane_of_impl_Policy_laneFault_1 t_slices_IndexFunc_impl_Lane_of_impl_Policy_laneFault_1_2 (plain_ok (by kernel_rfl)) _
theorem r_slices_IndexFunc_impl_Lane_of_impl_Policy_laneFault_1 (x) : runFn T G_slices_IndexFunc_impl_Lane_of_impl_Policy_laneFault_1 [(2, c_slices_IndexFunc_impl_Lane_of_impl_Policy_laneFault_1_2)] Tryz.f180 P_slices_IndexFunc_impl_Lane_of_impl_Policy_laneFault_1 R_slices_IndexFunc_impl_Lane_of_impl_Policy_laneFault_1 x = F_slices_IndexFunc_impl_Lane_of_impl_Policy_laneFault_1 x := by kernel_rfl
theorem s_slices_IndexFunc_impl_Lane_of_impl_Policy_laneFault_1 : CallsOk Tryz.prog 180 C_slices_IndexFunc_impl_Lane_of_impl_Policy_laneFault_1 :=
  fn_calls (L := [(2, c_slices_IndexFunc_impl_Lane_of_impl_Policy_laneFault_1_2)]) hT g_slices_IndexFunc_impl_Lane_of_impl_Policy_laneFault_1 Tryz.f180 (by kernel_rfl) (by kernel_rfl) (by kernel_rfl) (seq_ok (plain_ok (by kernel_rfl)) (seq_ok (seq_ok (plain_ok (by kernel_rfl)) (block_ok (by kernel_rfl) (loop_ok (by kernel_rfl) k_slices_IndexFunc_impl_Lane_of_impl_Policy_laneFault_1_2))) (plain_ok (by kernel_rfl)))) r_slices_IndexFunc_impl_Lane_of_impl_Policy_laneFault_1
/-! slices.ContainsFunc[impl.Lane,impl.Lane] -/
abbrev P_slices_ContainsFunc_impl_Lane_of_impl_Policy_laneFault_1 : List PK := [.val Y23, .fn 173 [Y165]]
abbrev R_slices_ContainsFunc_impl_Lane_of_impl_Policy_laneFault_1 : List VK := [.s (.dat .bool)]
def F_slices_ContainsFunc_impl_Lane_of_impl_Policy_laneFault_1 (x : denP P_slices_ContainsFunc_impl_Lane_of_impl_Policy_laneFault_1) : Option (denV R_slices_ContainsFunc_impl_Lane_of_impl_Policy_laneFault_1 × denQ P_slices_ContainsFunc_impl_Lane_of_impl_Policy_laneFault_1) :=
  (F_slices_IndexFunc_impl_Lane_of_impl_Policy_laneFault_1 (x.1, (x.2.1.1, ()), ())).bind fun r1 =>
  some (((leI (0 : Int) r1.1.1), ()), ())
abbrev C_slices_ContainsFunc_impl_Lane_of_impl_Policy_laneFault_1 : Con := ⟨P_slices_ContainsFunc_impl_Lane_of_impl_Policy_laneFault_1, R_slices_ContainsFunc_impl_Lane_of_impl_Policy_laneFault_1, F_slices_ContainsFunc_impl_Lane_of_impl_Policy_laneFault_1, false⟩
abbrev G_slices_ContainsFunc_impl_Lane_of_impl_Policy_laneFault_1 : Env := [(180, C_slices_IndexFunc_impl_Lane_of_impl_Policy_laneFault_1)]
theorem g_slices_ContainsFunc_impl_Lane_of_impl_Policy_laneFault_1 : EnvOk Tryz.prog G_slices_ContainsFunc_impl_Lane_of_impl_Policy_laneFault_1 := (env_cons s_slices_IndexFunc_impl_Lane_of_impl_Policy_laneFault_1 env_nil)
theorem r_slices_ContainsFunc_impl_Lane_of_impl_Policy_laneFault_1 (x) : runFn T G_slices_ContainsFunc_impl_Lane_of_impl_Policy_laneFault_1 [] Tryz.f172 P_slices_ContainsFunc_impl_Lane_of_impl_Policy_laneFault_1 R_slices_ContainsFunc_impl_Lane_of_impl_Policy_laneFault_1 x = F_slices_ContainsFunc_impl_Lane_of_impl_Policy_laneFault_1 x := by kernel_rfl
theorem s_slices_ContainsFunc_impl_Lane_of_impl_Policy_laneFault_1 : CallsOk Tryz.prog 172 C_slices_ContainsFunc_impl_Lane_of_impl_Policy_laneFault_1 :=
  fn_calls (L := []) hT g_slices_ContainsFunc_impl_Lane_of_impl_Policy_laneFault_1 Tryz.f172 (by kernel_rfl) (by kernel_rfl) (by kernel_rfl) (plain_ok (by kernel_rfl)) r_slices_ContainsFunc_impl_Lane_of_impl_Policy_laneFault_1
/-! (*impl.Policy).laneFault -/
abbrev P_impl_Policy_laneFault : List PK := [.ptr Y26, .val Y165, .val Y23]
abbrev R_impl_Policy_laneFault : List VK := [.s (.dat YI)]
def F_impl_Policy_laneFault (x : denP P_impl_Policy_laneFault) : Option (denV R_impl_Policy_laneFault × denQ P_impl_Policy_laneFault) :=
  (F_impl_Policy_linkFault (x.1, x.2.1.1, x.2.1.2.1, ())).bind fun r1 =>
  if (r1.1.1 != (0 : Int)) then
    some ((r1.1.1, ()), ())
  else
    (F_impl_within (x.2.1.2.2.1, (0 : Int), (23 : Int), ())).bind fun r2 =>
    if (!r2.1.1) = false then
      (F_impl_within (x.2.1.2.2.2.1, (5 : Int), (6 : Int), ())).bind fun r3 =>
      if (!r3.1.1) = false then
        (F_impl_within (x.2.1.2.2.2.2.1, (5 : Int), (6 : Int), ())).bind fun r4 =>
        if (!r4.1.1) then
          some (((3 : Int), ()), ())
        else
          (F_impl_Policy_owner (x.1, x.2.1.2.2.1, ())).bind fun r5 =>
          if (leI (0 : Int) r5.1.1) = false then
            (F_slices_ContainsFunc_impl_Lane_of_impl_Policy_laneFault_1 (x.2.2.1, (x.2.1, ()), ())).bind fun r6 =>
            if r6.1.1 then
              some (((6 : Int), ()), ())
            else
              some (((0 : Int), ()), ())
          else
            some (((6 : Int), ()), ())
      else
        some (((3 : Int), ()), ())
    else
      some (((3 : Int), ()), ())
abbrev C_impl_Policy_laneFault : Con := ⟨P_impl_Policy_laneFault, R_impl_Policy_laneFault, F_impl_Policy_laneFault, false⟩
abbrev G_impl_Policy_laneFault : Env := [(116, C_impl_within), (170, C_impl_Policy_linkFault), (171, C_impl_Policy_owner), (172, C_slices_ContainsFunc_impl_Lane_of_impl_Policy_laneFault_1)]
theorem g_impl_Policy_laneFault : EnvOk Tryz.prog G_impl_Policy_laneFault := (env_cons s_impl_within (env_cons s_impl_Policy_linkFault (env_cons s_impl_Policy_owner (env_cons s_slices_ContainsFunc_impl_Lane_of_impl_Policy_laneFault_1 env_nil))))
theorem r_impl_Policy_laneFault (x) : runFn T G_impl_Policy_laneFault [] Tryz.f154 P_impl_Policy_laneFault R_impl_Policy_laneFault x = F_impl_Policy_laneFault x := by kernel_rfl
theorem s_impl_Policy_laneFault : CallsOk Tryz.prog 154 C_impl_Policy_laneFault :=
  fn_calls (L := []) hT g_impl_Policy_laneFault Tryz.f154 (by kernel_rfl) (by kernel_rfl) (by kernel_rfl) (plain_ok (by kernel_rfl)) r_impl_Policy_laneFault
/-! slices.Index[impl.Bell,impl.Bell] -/
abbrev P_slices_Index_impl_Bell : List PK := [.val Y24, .val Y99]
abbrev R_slices_Index_impl_Bell : List VK := [.s (.dat YI)]
abbrev i_slices_Index_impl_Bell_2 : Shp := { slots := [(0, .s (.dat Y24)), (3, .s (.ptr 3 0)), (7, .s (.dat YI)), (8, .s (.dat YI))], boxes := [(3, [.dat YI, .dat YI])], rows := [] }
abbrev o_slices_Index_impl_Bell_2 : List (Ex × Shp) := [(.exit 0, { slots := [], boxes := [], rows := [] }), (.ret, { slots := [(4, .s (.dat YI))], boxes := [], rows := [] })]
def l_slices_Index_impl_Bell_2 (rec : i_slices_Index_impl_Bell_2.den → Option (denO o_slices_Index_impl_Bell_2)) (u2 : i_slices_Index_impl_Bell_2.den) : Option (denO o_slices_Index_impl_Bell_2) :=
  if (ltI u2.1.2.2.2.1 u2.1.2.2.1) then
    if 0 ≤ u2.1.2.2.2.1 then
      ((u2.1.1)[(u2.1.2.2.2.1).toNat]?).bind fun y3 =>
      if ((u2.2.1.1.1 == y3.1) && ((u2.2.1.1.2.1 == y3.2.1) && true)) then
        some (.inr (.inl ((u2.1.2.2.2.1, ()), ((), ()))))
      else
        let v4 := (IntKind.i64.wrap (u2.1.2.2.2.1 + (1 : Int)))
        rec ((u2.1.1, ((), (u2.1.2.2.1, (v4, ())))), (((u2.2.1.1.1, (u2.2.1.1.2.1, ())), ()), ()))
    else none
  else
    some (.inl ((), ((), ())))
def L_slices_Index_impl_Bell_2 (x : i_slices_Index_impl_Bell_2.den) : Option (denO o_slices_Index_impl_Bell_2) := iterF l_slices_Index_impl_Bell_2 lots x
def F_slices_Index_impl_Bell (x : denP P_slices_Index_impl_Bell) : Option (denV R_slices_Index_impl_Bell × denQ P_slices_Index_impl_Bell) :=
  let v1 := ((x.1.length : Nat) : Int)
  (L_slices_Index_impl_Bell_2 ((x.1, ((), (v1, ((0 : Int), ())))), (((x.2.1.1, (x.2.1.2.1, ())), ()), ()))).bind fun z5 =>
  match z5 with
  | .inl x6 =>
    some (((-1 : Int), ()), ())
  | .inr z5_ =>
    match z5_ with
    | .inl x7 =>
      some ((x7.1.1, ()), ())
    | .inr z5__ =>
      none
abbrev C_slices_Index_impl_Bell : Con := ⟨P_slices_Index_impl_Bell, R_slices_Index_impl_Bell, F_slices_Index_impl_Bell, false⟩
abbrev G_slices_Index_impl_Bell : Env := []
theorem g_slices_Index_impl_Bell : EnvOk Tryz.prog G_slices_Index_impl_Bell := env_nil
abbrev c_slices_Index_impl_Bell_2 : Cut := ⟨i_slices_Index_impl_Bell_2, o_slices_Index_impl_Bell_2, fun x => iterF l_slices_Index_impl_Bell_2 lots x⟩
theorem t_slices_Index_impl_Bell_2 (rec x) : run T G_slices_Index_impl_Bell [] (nav Tryz.f181 [1, 0, 1, 0, 0]) (mk 19 i_slices_Index_impl_Bell_2 x) (loopK i_slices_Index_impl_Bell_2 o_slices_Index_impl_Bell_2 rec) = l_slices_Index_impl_Bell_2 rec x := by kernel_rfl
theorem k_slices_Index_impl_Bell_2 : CutOk Tryz.prog 19 (.loop (nav Tryz.f181 [1, 0, 1, 0, 0])) c_slices_Index_impl_Bell_2 :=
  loop_cut (L := []) hT g_slices_Index_impl_Bell t_slices_Index_impl_Bell_2 (plain_ok (by kernel_rfl)) _
theorem r_slices_Index_impl_Bell (x) : runFn T G_slices_Index_impl_Bell [(2, c_slices_Index_impl_Bell_2)] Tryz.f181 P_slices_Index_impl_Bell R_slices_Index_impl_Bell x = F_slices_Index_impl_Bell x := by kernel_rfl
theorem s_slices_Index_impl_Bell : CallsOk Tryz.prog 181 C_slices_Index_impl_Bell :=
  fn_calls (L := [(2, c_slices_Index_impl_Bell_2)]) hT g_slices_Index_impl_Bell Tryz.f181 (by kernel_rfl) (by kernel_rfl) (by kernel_rfl) (seq_ok (plain_ok (by kernel_rfl)) (seq_ok (seq_ok (plain_ok (by kernel_rfl)) (block_ok (by kernel_rfl) (loop_ok (by kernel_rfl) k_slices_Index_impl_Bell_2))) (plain_ok (by kernel_rfl)))) r_slices_Index_impl_Bell
/-! slices.Contains[impl.Bell,impl.Bell] -/
abbrev P_slices_Contains_impl_Bell : List PK := [.val Y24, .val Y99]
abbrev R_slices_Contains_impl_Bell : List VK := [.s (.dat .bool)]
def F_slices_Contains_impl_Bell (x : denP P_slices_Contains_impl_Bell) : Option (denV R_slices_Contains_impl_Bell × denQ P_slices_Contains_impl_Bell) :=
  (F_slices_Index_impl_Bell (x.1, x.2.1, ())).bind fun r1 =>
  some (((leI (0 : Int) r1.1.1), ()), ())
abbrev C_slices_Contains_impl_Bell : Con := ⟨P_slices_Contains_impl_Bell, R_slices_Contains_impl_Bell, F_slices_Contains_impl_Bell, false⟩
abbrev G_slices_Contains_impl_Bell : Env := [(181, C_slices_Index_impl_Bell)]
theorem g_slices_Contains_impl_Bell : EnvOk Tryz.prog G_slices_Contains_impl_Bell := (env_cons s_slices_Index_impl_Bell env_nil)
theorem r_slices_Contains_impl_Bell (x) : runFn T G_slices_Contains_impl_Bell [] Tryz.f175 P_slices_Contains_impl_Bell R_slices_Contains_impl_Bell x = F_slices_Contains_impl_Bell x := by kernel_rfl
theorem s_slices_Contains_impl_Bell : CallsOk Tryz.prog 175 C_slices_Contains_impl_Bell :=
  fn_calls (L := []) hT g_slices_Contains_impl_Bell Tryz.f175 (by kernel_rfl) (by kernel_rfl) (by kernel_rfl) (plain_ok (by kernel_rfl)) r_slices_Contains_impl_Bell
/-! (*impl.Policy).bellFault -/
abbrev P_impl_Policy_bellFault : List PK := [.ptr Y26, .val Y99, .val Y24]
abbrev R_impl_Policy_bellFault : List VK := [.s (.dat YI)]
def F_impl_Policy_bellFault (x : denP P_impl_Policy_bellFault) : Option (denV R_impl_Policy_bellFault × denQ P_impl_Policy_bellFault) :=
  (F_impl_Policy_linkFault (x.1, x.2.1.1, x.2.1.2.1, ())).bind fun r1 =>
  if (r1.1.1 != (0 : Int)) then
    some ((r1.1.1, ()), ())
  else
    (F_slices_Contains_impl_Bell (x.2.2.1, x.2.1, ())).bind fun r2 =>
    if r2.1.1 then
      some (((6 : Int), ()), ())
    else
      some (((0 : Int), ()), ())
abbrev C_impl_Policy_bellFault : Con := ⟨P_impl_Policy_bellFault, R_impl_Policy_bellFault, F_impl_Policy_bellFault, false⟩
abbrev G_impl_Policy_bellFault : Env := [(170, C_impl_Policy_linkFault), (175, C_slices_Contains_impl_Bell)]
theorem g_impl_Policy_bellFault : EnvOk Tryz.prog G_impl_Policy_bellFault := (env_cons s_impl_Policy_linkFault (env_cons s_slices_Contains_impl_Bell env_nil))
theorem r_impl_Policy_bellFault (x) : runFn T G_impl_Policy_bellFault [] Tryz.f155 P_impl_Policy_bellFault R_impl_Policy_bellFault x = F_impl_Policy_bellFault x := by kernel_rfl
theorem s_impl_Policy_bellFault : CallsOk Tryz.prog 155 C_impl_Policy_bellFault :=
  fn_calls (L := []) hT g_impl_Policy_bellFault Tryz.f155 (by kernel_rfl) (by kernel_rfl) (by kernel_rfl) (plain_ok (by kernel_rfl)) r_impl_Policy_bellFault
/-! (*impl.Policy).planFault -/
abbrev P_impl_Policy_planFault : List PK := [.ptr Y26]
abbrev R_impl_Policy_planFault : List VK := [.s (.dat YI)]
abbrev i_impl_Policy_planFault_4 : Shp := { slots := [(0, .s (.pd Y26)), (15, .s (.dat Y24)), (16, .s (.dat YI)), (17, .s (.dat YI))], boxes := [], rows := [] }
abbrev o_impl_Policy_planFault_4 : List (Ex × Shp) := [(.exit 0, { slots := [], boxes := [], rows := [] }), (.ret, { slots := [(2, .s (.dat YI))], boxes := [], rows := [] })]
def l_impl_Policy_planFault_4 (rec : i_impl_Policy_planFault_4.den → Option (denO o_impl_Policy_planFault_4)) (u4 : i_impl_Policy_planFault_4.den) : Option (denO o_impl_Policy_planFault_4) :=
  if (ltI u4.1.2.2.2.1 u4.1.2.2.1) then
    if 0 ≤ u4.1.2.2.2.1 then
      ((u4.1.2.1)[(u4.1.2.2.2.1).toNat]?).bind fun y7 =>
      (F_impl_Policy_isGuest (u4.1.1, y7.1, ())).bind fun r8 =>
      if (!r8.1.1) then
        some (.inr (.inl (((4 : Int), ()), ((), ()))))
      else
        (F_impl_within (y7.2.1, (1 : Int), (50 : Int), ())).bind fun r9 =>
        if (!r9.1.1) then
          some (.inr (.inl (((3 : Int), ()), ((), ()))))
        else
          let v10 := (IntKind.i64.wrap (u4.1.2.2.2.1 + (1 : Int)))
          rec ((u4.1.1, (u4.1.2.1, (u4.1.2.2.1, (v10, ())))), ((), ()))
    else none
  else
    some (.inl ((), ((), ())))
def L_impl_Policy_planFault_4 (x : i_impl_Policy_planFault_4.den) : Option (denO o_impl_Policy_planFault_4) := iterF l_impl_Policy_planFault_4 lots x
def F_impl_Policy_planFault (x : denP P_impl_Policy_planFault) : Option (denV R_impl_Policy_planFault × denQ P_impl_Policy_planFault) :=
  let v1 := ((x.1.2.2.2.1.length : Nat) : Int)
  (F_impl_within (v1, (1 : Int), (8 : Int), ())).bind fun r2 =>
  if (!r2.1.1) then
    some (((2 : Int), ()), ())
  else
    let v3 := ((x.1.2.2.2.1.length : Nat) : Int)
    (L_impl_Policy_planFault_4 ((x.1, (x.1.2.2.2.1, (v3, ((0 : Int), ())))), ((), ()))).bind fun z11 =>
    match z11 with
    | .inl x12 =>
      some (((0 : Int), ()), ())
    | .inr z11_ =>
      match z11_ with
      | .inl x13 =>
        some ((x13.1.1, ()), ())
      | .inr z11__ =>
        none
abbrev C_impl_Policy_planFault : Con := ⟨P_impl_Policy_planFault, R_impl_Policy_planFault, F_impl_Policy_planFault, false⟩
abbrev G_impl_Policy_planFault : Env := [(103, C_impl_Policy_isGuest), (116, C_impl_within)]
theorem g_impl_Policy_planFault : EnvOk Tryz.prog G_impl_Policy_planFault := (env_cons s_impl_Policy_isGuest (env_cons s_impl_within env_nil))
abbrev c_impl_Policy_planFault_4 : Cut := ⟨i_impl_Policy_planFault_4, o_impl_Policy_planFault_4, fun x => iterF l_impl_Policy_planFault_4 lots x⟩
theorem t_impl_Policy_planFault_4 (rec x) : run T G_impl_Policy_planFault [] (nav Tryz.f156 [1, 1, 0, 1, 0, 0]) (mk 33 i_impl_Policy_planFault_4 x) (loopK i_impl_Policy_planFault_4 o_impl_Policy_planFault_4 rec) = l_impl_Policy_planFault_4 rec x := by kernel_rfl
theorem k_impl_Policy_planFault_4 : CutOk Tryz.prog 33 (.loop (nav Tryz.f156 [1, 1, 0, 1, 0, 0])) c_impl_Policy_planFault_4 :=
  loop_cut (L := []) hT g_impl_Policy_planFault t_impl_Policy_planFault_4 (plain_ok (by kernel_rfl)) _
theorem r_impl_Policy_planFault (x) : runFn T G_impl_Policy_planFault [(4, c_impl_Policy_planFault_4)] Tryz.f156 P_impl_Policy_planFault R_impl_Policy_planFault x = F_impl_Policy_planFault x := by kernel_rfl
theorem s_impl_Policy_planFault : CallsOk Tryz.prog 156 C_impl_Policy_planFault :=
  fn_calls (L := [(4, c_impl_Policy_planFault_4)]) hT g_impl_Policy_planFault Tryz.f156 (by kernel_rfl) (by kernel_rfl) (by kernel_rfl) (seq_ok (plain_ok (by kernel_rfl)) (seq_ok (plain_ok (by kernel_rfl)) (seq_ok (seq_ok (plain_ok (by kernel_rfl)) (block_ok (by kernel_rfl) (loop_ok (by kernel_rfl) k_impl_Policy_planFault_4))) (plain_ok (by kernel_rfl))))) r_impl_Policy_planFault
end Go.Proofs.YtimbcpeilkaahaaGreat
