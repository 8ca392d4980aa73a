/- The functions of the laws, each as a plain function of data (F), and that the program's text does what F says. Printed by a program (wip/tools/gen.py). -/
import Derived.Test.YteddlkdbefloaaaGd
namespace Go.Proofs.Yteddlkdbefloaaa
open Go Go.RowKit S Go.Proofs
set_option maxRecDepth 100000
set_option linter.unusedVariables false
/-! laws.szInt64SS -/
abbrev P_laws_szInt64SS : List PK := [.val Y57, .val YI]
abbrev R_laws_szInt64SS : List VK := [.s (.dat YI)]
abbrev i_laws_szInt64SS_5 : Shp := { slots := [(0, .s (.dat Y57)), (1, .s (.dat YI)), (5, .s (.dat YI))], boxes := [], rows := [] }
abbrev o_laws_szInt64SS_5 : List (Ex × Shp) := [(.exit 0, { slots := [(1, .s (.dat YI))], boxes := [], rows := [] }), (.ret, { slots := [(4, .s (.dat YI))], boxes := [], rows := [] })]
def l_laws_szInt64SS_5 (rec : i_laws_szInt64SS_5.den → Option (denO o_laws_szInt64SS_5)) (u5 : i_laws_szInt64SS_5.den) : Option (denO o_laws_szInt64SS_5) :=
  let v5 := ((u5.1.1.length : Nat) : Int)
  if (ltI u5.1.2.2.1 v5) then
    if 0 ≤ u5.1.2.2.1 then
      ((u5.1.1)[(u5.1.2.2.1).toNat]?).bind fun y6 =>
      (F_laws_szInt64S (y6, u5.1.2.1, ())).bind fun r7 =>
      if (ltI r7.1.1 (0 : Int)) then
        some (.inr (.inl (((-1 : Int), ()), ((), ()))))
      else
        let v8 := (IntKind.i64.wrap (u5.1.2.2.1 + (1 : Int)))
        rec ((u5.1.1, (r7.1.1, (v8, ()))), ((), ()))
    else none
  else
    some (.inl ((u5.1.2.1, ()), ((), ())))
def L_laws_szInt64SS_5 (x : i_laws_szInt64SS_5.den) : Option (denO o_laws_szInt64SS_5) := iterF l_laws_szInt64SS_5 lots x
def F_laws_szInt64SS (x : denP P_laws_szInt64SS) : Option (denV R_laws_szInt64SS × denQ P_laws_szInt64SS) :=
  let v1 := ((x.1.length : Nat) : Int)
  let v2 := (IntKind.i64.wrap (x.2.1 - v1))
  if (ltI v2 (0 : Int)) then
    some (((-1 : Int), ()), ())
  else
    (L_laws_szInt64SS_5 ((x.1, (v2, ((0 : Int), ()))), ((), ()))).bind fun z9 =>
    match z9 with
    | .inl x10 =>
      some ((x10.1.1, ()), ())
    | .inr z9_ =>
      match z9_ with
      | .inl x11 =>
        some ((x11.1.1, ()), ())
      | .inr z9__ =>
        none
abbrev C_laws_szInt64SS : Con := ⟨P_laws_szInt64SS, R_laws_szInt64SS, F_laws_szInt64SS, false⟩
abbrev G_laws_szInt64SS : Env := [(68, C_laws_szInt64S)]
theorem g_laws_szInt64SS : EnvOk Try.prog G_laws_szInt64SS := (env_cons s_laws_szInt64S env_nil)
abbrev c_laws_szInt64SS_5 : Cut := ⟨i_laws_szInt64SS_5, o_laws_szInt64SS_5, fun x => iterF l_laws_szInt64SS_5 lots x⟩
theorem t_laws_szInt64SS_5 (rec x) : run T G_laws_szInt64SS [] (nav Try.f93 [1, 1, 1, 0, 1, 0, 0]) (mk 27 i_laws_szInt64SS_5 x) (loopK i_laws_szInt64SS_5 o_laws_szInt64SS_5 rec) = l_laws_szInt64SS_5 rec x := by kernel_rfl
theorem k_laws_szInt64SS_5 : CutOk Try.prog 27 (.loop (nav Try.f93 [1, 1, 1, 0, 1, 0, 0])) c_laws_szInt64SS_5 :=
  loop_cut (L := []) hT g_laws_szInt64SS t_laws_szInt64SS_5 (plain_ok (by kernel_rfl)) _
theorem r_laws_szInt64SS (x) : runFn T G_laws_szInt64SS [(5, c_laws_szInt64SS_5)] Try.f93 P_laws_szInt64SS R_laws_szInt64SS x = F_laws_szInt64SS x := by kernel_rfl
theorem s_laws_szInt64SS : CallsOk Try.prog 93 C_laws_szInt64SS :=
  fn_calls (L := [(5, c_laws_szInt64SS_5)]) hT g_laws_szInt64SS Try.f93 (by kernel_rfl) (by kernel_rfl) (by kernel_rfl) (seq_ok (plain_ok (by kernel_rfl)) (seq_ok (plain_ok (by kernel_rfl)) (seq_ok (plain_ok (by kernel_rfl)) (seq_ok (seq_ok (plain_ok (by kernel_rfl)) (block_ok (by kernel_rfl) (loop_ok (by kernel_rfl) k_laws_szInt64SS_5))) (plain_ok (by kernel_rfl)))))) r_laws_szInt64SS
/-! laws.szLaneS -/
abbrev P_laws_szLaneS : List PK := [.val Y58, .val YI]
abbrev R_laws_szLaneS : List VK := [.s (.dat YI)]
def F_laws_szLaneS (x : denP P_laws_szLaneS) : Option (denV R_laws_szLaneS × denQ P_laws_szLaneS) :=
  let v1 := ((x.1.length : Nat) : Int)
  let v2 := (IntKind.i64.wrap (x.2.1 - v1))
  if (ltI v2 (0 : Int)) then
    some (((-1 : Int), ()), ())
  else
    some ((v2, ()), ())
abbrev C_laws_szLaneS : Con := ⟨P_laws_szLaneS, R_laws_szLaneS, F_laws_szLaneS, false⟩
abbrev G_laws_szLaneS : Env := []
theorem g_laws_szLaneS : EnvOk Try.prog G_laws_szLaneS := env_nil
theorem r_laws_szLaneS (x) : runFn T G_laws_szLaneS [] Try.f94 P_laws_szLaneS R_laws_szLaneS x = F_laws_szLaneS x := by kernel_rfl
theorem s_laws_szLaneS : CallsOk Try.prog 94 C_laws_szLaneS :=
  fn_calls (L := []) hT g_laws_szLaneS Try.f94 (by kernel_rfl) (by kernel_rfl) (by kernel_rfl) (plain_ok (by kernel_rfl)) r_laws_szLaneS
/-! laws.szBellS -/
abbrev P_laws_szBellS : List PK := [.val Y59, .val YI]
abbrev R_laws_szBellS : List VK := [.s (.dat YI)]
def F_laws_szBellS (x : denP P_laws_szBellS) : Option (denV R_laws_szBellS × denQ P_laws_szBellS) :=
  let v1 := ((x.1.length : Nat) : Int)
  let v2 := (IntKind.i64.wrap (x.2.1 - v1))
  if (ltI v2 (0 : Int)) then
    some (((-1 : Int), ()), ())
  else
    some ((v2, ()), ())
abbrev C_laws_szBellS : Con := ⟨P_laws_szBellS, R_laws_szBellS, F_laws_szBellS, false⟩
abbrev G_laws_szBellS : Env := []
theorem g_laws_szBellS : EnvOk Try.prog G_laws_szBellS := env_nil
theorem r_laws_szBellS (x) : runFn T G_laws_szBellS [] Try.f95 P_laws_szBellS R_laws_szBellS x = F_laws_szBellS x := by kernel_rfl
theorem s_laws_szBellS : CallsOk Try.prog 95 C_laws_szBellS :=
  fn_calls (L := []) hT g_laws_szBellS Try.f95 (by kernel_rfl) (by kernel_rfl) (by kernel_rfl) (plain_ok (by kernel_rfl)) r_laws_szBellS
/-! laws.szSlotS -/
abbrev P_laws_szSlotS : List PK := [.val Y59, .val YI]
abbrev R_laws_szSlotS : List VK := [.s (.dat YI)]
def F_laws_szSlotS (x : denP P_laws_szSlotS) : Option (denV R_laws_szSlotS × denQ P_laws_szSlotS) :=
  let v1 := ((x.1.length : Nat) : Int)
  let v2 := (IntKind.i64.wrap (x.2.1 - v1))
  if (ltI v2 (0 : Int)) then
    some (((-1 : Int), ()), ())
  else
    some ((v2, ()), ())
abbrev C_laws_szSlotS : Con := ⟨P_laws_szSlotS, R_laws_szSlotS, F_laws_szSlotS, false⟩
abbrev G_laws_szSlotS : Env := []
theorem g_laws_szSlotS : EnvOk Try.prog G_laws_szSlotS := env_nil
theorem r_laws_szSlotS (x) : runFn T G_laws_szSlotS [] Try.f96 P_laws_szSlotS R_laws_szSlotS x = F_laws_szSlotS x := by kernel_rfl
theorem s_laws_szSlotS : CallsOk Try.prog 96 C_laws_szSlotS :=
  fn_calls (L := []) hT g_laws_szSlotS Try.f96 (by kernel_rfl) (by kernel_rfl) (by kernel_rfl) (plain_ok (by kernel_rfl)) r_laws_szSlotS
/-! laws.szPolicy -/
abbrev P_laws_szPolicy : List PK := [.val Y61, .val YI]
abbrev R_laws_szPolicy : List VK := [.s (.dat YI)]
def F_laws_szPolicy (x : denP P_laws_szPolicy) : Option (denV R_laws_szPolicy × denQ P_laws_szPolicy) :=
  (F_laws_szInt64SS (x.1.1, x.2.1, ())).bind fun r1 =>
  if (ltI r1.1.1 (0 : Int)) then
    some (((-1 : Int), ()), ())
  else
    (F_laws_szLaneS (x.1.2.1, r1.1.1, ())).bind fun r2 =>
    if (ltI r2.1.1 (0 : Int)) then
      some (((-1 : Int), ()), ())
    else
      (F_laws_szBellS (x.1.2.2.1, r2.1.1, ())).bind fun r3 =>
      if (ltI r3.1.1 (0 : Int)) then
        some (((-1 : Int), ()), ())
      else
        (F_laws_szSlotS (x.1.2.2.2.1, r3.1.1, ())).bind fun r4 =>
        if (ltI r4.1.1 (0 : Int)) then
          some (((-1 : Int), ()), ())
        else
          some ((r4.1.1, ()), ())
abbrev C_laws_szPolicy : Con := ⟨P_laws_szPolicy, R_laws_szPolicy, F_laws_szPolicy, false⟩
abbrev G_laws_szPolicy : Env := [(93, C_laws_szInt64SS), (94, C_laws_szLaneS), (95, C_laws_szBellS), (96, C_laws_szSlotS)]
theorem g_laws_szPolicy : EnvOk Try.prog G_laws_szPolicy := (env_cons s_laws_szInt64SS (env_cons s_laws_szLaneS (env_cons s_laws_szBellS (env_cons s_laws_szSlotS env_nil))))
theorem r_laws_szPolicy (x) : runFn T G_laws_szPolicy [] Try.f43 P_laws_szPolicy R_laws_szPolicy x = F_laws_szPolicy x := by kernel_rfl
theorem s_laws_szPolicy : CallsOk Try.prog 43 C_laws_szPolicy :=
  fn_calls (L := []) hT g_laws_szPolicy Try.f43 (by kernel_rfl) (by kernel_rfl) (by kernel_rfl) (plain_ok (by kernel_rfl)) r_laws_szPolicy
/-! laws.toInt64SS -/
abbrev P_laws_toInt64SS : List PK := [.val Y57]
abbrev R_laws_toInt64SS : List VK := [.s (.own 22 Y22)]
abbrev i_laws_toInt64SS_3 : Shp := { slots := [(0, .s (.dat Y57)), (3, .s (.own 22 Y22)), (4, .s (.dat YI))], boxes := [], rows := [] }
abbrev o_laws_toInt64SS_3 : List (Ex × Shp) := [(.exit 0, { slots := [(3, .s (.own 22 Y22))], boxes := [], rows := [] })]
def l_laws_toInt64SS_3 (rec : i_laws_toInt64SS_3.den → Option (denO o_laws_toInt64SS_3)) (u3 : i_laws_toInt64SS_3.den) : Option (denO o_laws_toInt64SS_3) :=
  let v5 := ((u3.1.1.length : Nat) : Int)
  if (ltI u3.1.2.2.1 v5) then
    if 0 ≤ u3.1.2.2.1 then
      ((u3.1.1)[(u3.1.2.2.1).toNat]?).bind fun y6 =>
      (F_laws_toInt64S (y6, ())).bind fun r7 =>
      if 0 ≤ u3.1.2.2.1 ∧ u3.1.2.2.1 < ((u3.1.2.1.length : Nat) : Int) then
        ((u3.1.2.1)[(u3.1.2.2.1).toNat]?).bind fun y8 =>
        let v9 := (u3.1.2.1.set (u3.1.2.2.1).toNat r7.1.1)
        let v10 := (IntKind.i64.wrap (u3.1.2.2.1 + (1 : Int)))
        rec ((u3.1.1, (v9, (v10, ()))), ((), ()))
      else none
    else none
  else
    some (.inl ((u3.1.2.1, ()), ((), ())))
def L_laws_toInt64SS_3 (x : i_laws_toInt64SS_3.den) : Option (denO o_laws_toInt64SS_3) := iterF l_laws_toInt64SS_3 lots x
def F_laws_toInt64SS (x : denP P_laws_toInt64SS) : Option (denV R_laws_toInt64SS × denQ P_laws_toInt64SS) :=
  let v1 := ((x.1.length : Nat) : Int)
  if v1 = v1 ∧ 0 ≤ v1 ∧ v1 * 24 ≤ 140737488355328 ∧ v1 ≤ 9223372036854775807 then
    (L_laws_toInt64SS_3 ((x.1, ((List.replicate (v1).toNat (zeroD Y22)), ((0 : Int), ()))), ((), ()))).bind fun z11 =>
    match z11 with
    | .inl x12 =>
      some ((x12.1.1, ()), ())
    | .inr z11_ =>
      none
  else none
abbrev C_laws_toInt64SS : Con := ⟨P_laws_toInt64SS, R_laws_toInt64SS, F_laws_toInt64SS, false⟩
abbrev G_laws_toInt64SS : Env := [(15, C_laws_toInt64S)]
theorem g_laws_toInt64SS : EnvOk Try.prog G_laws_toInt64SS := (env_cons s_laws_toInt64S env_nil)
abbrev c_laws_toInt64SS_3 : Cut := ⟨i_laws_toInt64SS_3, o_laws_toInt64SS_3, fun x => iterF l_laws_toInt64SS_3 lots x⟩
theorem t_laws_toInt64SS_3 (rec x) : run T G_laws_toInt64SS [] (nav Try.f97 [1, 1, 0, 1, 0, 0]) (mk 23 i_laws_toInt64SS_3 x) (loopK i_laws_toInt64SS_3 o_laws_toInt64SS_3 rec) = l_laws_toInt64SS_3 rec x := by kernel_rfl
theorem k_laws_toInt64SS_3 : CutOk Try.prog 23 (.loop (nav Try.f97 [1, 1, 0, 1, 0, 0])) c_laws_toInt64SS_3 :=
  loop_cut (L := []) hT g_laws_toInt64SS t_laws_toInt64SS_3 (plain_ok (by kernel_rfl)) _
theorem r_laws_toInt64SS (x) : runFn T G_laws_toInt64SS [(3, c_laws_toInt64SS_3)] Try.f97 P_laws_toInt64SS R_laws_toInt64SS x = F_laws_toInt64SS x := by kernel_rfl
theorem s_laws_toInt64SS : CallsOk Try.prog 97 C_laws_toInt64SS :=
  fn_calls (L := [(3, c_laws_toInt64SS_3)]) hT g_laws_toInt64SS Try.f97 (by kernel_rfl) (by kernel_rfl) (by kernel_rfl) (seq_ok (plain_ok (by kernel_rfl)) (seq_ok (plain_ok (by kernel_rfl)) (seq_ok (seq_ok (plain_ok (by kernel_rfl)) (block_ok (by kernel_rfl) (loop_ok (by kernel_rfl) k_laws_toInt64SS_3))) (plain_ok (by kernel_rfl))))) r_laws_toInt64SS
/-! laws.toLane -/
abbrev P_laws_toLane : List PK := [.val Y168]
abbrev R_laws_toLane : List VK := [.s (.dat Y168)]
def F_laws_toLane (x : denP P_laws_toLane) : Option (denV R_laws_toLane × denQ P_laws_toLane) :=
  some ((x.1, ()), ())
abbrev C_laws_toLane : Con := ⟨P_laws_toLane, R_laws_toLane, F_laws_toLane, false⟩
abbrev G_laws_toLane : Env := []
theorem g_laws_toLane : EnvOk Try.prog G_laws_toLane := env_nil
theorem r_laws_toLane (x) : runFn T G_laws_toLane [] Try.f145 P_laws_toLane R_laws_toLane x = F_laws_toLane x := by kernel_rfl
theorem s_laws_toLane : CallsOk Try.prog 145 C_laws_toLane :=
  fn_calls (L := []) hT g_laws_toLane Try.f145 (by kernel_rfl) (by kernel_rfl) (by kernel_rfl) (plain_ok (by kernel_rfl)) r_laws_toLane
/-! laws.toLaneS -/
abbrev P_laws_toLaneS : List PK := [.val Y58]
abbrev R_laws_toLaneS : List VK := [.s (.own 169 Y168)]
abbrev i_laws_toLaneS_3 : Shp := { slots := [(0, .s (.dat Y58)), (3, .s (.own 169 Y168)), (4, .s (.dat YI))], boxes := [], rows := [] }
abbrev o_laws_toLaneS_3 : List (Ex × Shp) := [(.exit 0, { slots := [(3, .s (.own 169 Y168))], boxes := [], rows := [] })]
def l_laws_toLaneS_3 (rec : i_laws_toLaneS_3.den → Option (denO o_laws_toLaneS_3)) (u3 : i_laws_toLaneS_3.den) : Option (denO o_laws_toLaneS_3) :=
  let v5 := ((u3.1.1.length : Nat) : Int)
  if (ltI u3.1.2.2.1 v5) then
    if 0 ≤ u3.1.2.2.1 then
      ((u3.1.1)[(u3.1.2.2.1).toNat]?).bind fun y6 =>
      (F_laws_toLane (y6, ())).bind fun r7 =>
      if 0 ≤ u3.1.2.2.1 ∧ u3.1.2.2.1 < ((u3.1.2.1.length : Nat) : Int) then
        ((u3.1.2.1)[(u3.1.2.2.1).toNat]?).bind fun y8 =>
        let v9 := (u3.1.2.1.set (u3.1.2.2.1).toNat r7.1.1)
        let v10 := (IntKind.i64.wrap (u3.1.2.2.1 + (1 : Int)))
        rec ((u3.1.1, (v9, (v10, ()))), ((), ()))
      else none
    else none
  else
    some (.inl ((u3.1.2.1, ()), ((), ())))
def L_laws_toLaneS_3 (x : i_laws_toLaneS_3.den) : Option (denO o_laws_toLaneS_3) := iterF l_laws_toLaneS_3 lots x
def F_laws_toLaneS (x : denP P_laws_toLaneS) : Option (denV R_laws_toLaneS × denQ P_laws_toLaneS) :=
  let v1 := ((x.1.length : Nat) : Int)
  if v1 = v1 ∧ 0 ≤ v1 ∧ v1 * 40 ≤ 140737488355328 ∧ v1 ≤ 9223372036854775807 then
    (L_laws_toLaneS_3 ((x.1, ((List.replicate (v1).toNat (zeroD Y168)), ((0 : Int), ()))), ((), ()))).bind fun z11 =>
    match z11 with
    | .inl x12 =>
      some ((x12.1.1, ()), ())
    | .inr z11_ =>
      none
  else none
abbrev C_laws_toLaneS : Con := ⟨P_laws_toLaneS, R_laws_toLaneS, F_laws_toLaneS, false⟩
abbrev G_laws_toLaneS : Env := [(145, C_laws_toLane)]
theorem g_laws_toLaneS : EnvOk Try.prog G_laws_toLaneS := (env_cons s_laws_toLane env_nil)
abbrev c_laws_toLaneS_3 : Cut := ⟨i_laws_toLaneS_3, o_laws_toLaneS_3, fun x => iterF l_laws_toLaneS_3 lots x⟩
theorem t_laws_toLaneS_3 (rec x) : run T G_laws_toLaneS [] (nav Try.f98 [1, 1, 0, 1, 0, 0]) (mk 23 i_laws_toLaneS_3 x) (loopK i_laws_toLaneS_3 o_laws_toLaneS_3 rec) = l_laws_toLaneS_3 rec x := by kernel_rfl
theorem k_laws_toLaneS_3 : CutOk Try.prog 23 (.loop (nav Try.f98 [1, 1, 0, 1, 0, 0])) c_laws_toLaneS_3 :=
  loop_cut (L := []) hT g_laws_toLaneS t_laws_toLaneS_3 (plain_ok (by kernel_rfl)) _
theorem r_laws_toLaneS (x) : runFn T G_laws_toLaneS [(3, c_laws_toLaneS_3)] Try.f98 P_laws_toLaneS R_laws_toLaneS x = F_laws_toLaneS x := by kernel_rfl
theorem s_laws_toLaneS : CallsOk Try.prog 98 C_laws_toLaneS :=
  fn_calls (L := [(3, c_laws_toLaneS_3)]) hT g_laws_toLaneS Try.f98 (by kernel_rfl) (by kernel_rfl) (by kernel_rfl) (seq_ok (plain_ok (by kernel_rfl)) (seq_ok (plain_ok (by kernel_rfl)) (seq_ok (seq_ok (plain_ok (by kernel_rfl)) (block_ok (by kernel_rfl) (loop_ok (by kernel_rfl) k_laws_toLaneS_3))) (plain_ok (by kernel_rfl))))) r_laws_toLaneS
/-! laws.toBell -/
abbrev P_laws_toBell : List PK := [.val Y23]
abbrev R_laws_toBell : List VK := [.s (.dat Y23)]
def F_laws_toBell (x : denP P_laws_toBell) : Option (denV R_laws_toBell × denQ P_laws_toBell) :=
  some ((x.1, ()), ())
abbrev C_laws_toBell : Con := ⟨P_laws_toBell, R_laws_toBell, F_laws_toBell, false⟩
abbrev G_laws_toBell : Env := []
theorem g_laws_toBell : EnvOk Try.prog G_laws_toBell := env_nil
theorem r_laws_toBell (x) : runFn T G_laws_toBell [] Try.f146 P_laws_toBell R_laws_toBell x = F_laws_toBell x := by kernel_rfl
theorem s_laws_toBell : CallsOk Try.prog 146 C_laws_toBell :=
  fn_calls (L := []) hT g_laws_toBell Try.f146 (by kernel_rfl) (by kernel_rfl) (by kernel_rfl) (plain_ok (by kernel_rfl)) r_laws_toBell
/-! laws.toBellS -/
abbrev P_laws_toBellS : List PK := [.val Y59]
abbrev R_laws_toBellS : List VK := [.s (.own 172 Y23)]
abbrev i_laws_toBellS_3 : Shp := { slots := [(0, .s (.dat Y59)), (3, .s (.own 172 Y23)), (4, .s (.dat YI))], boxes := [], rows := [] }
abbrev o_laws_toBellS_3 : List (Ex × Shp) := [(.exit 0, { slots := [(3, .s (.own 172 Y23))], boxes := [], rows := [] })]
def l_laws_toBellS_3 (rec : i_laws_toBellS_3.den → Option (denO o_laws_toBellS_3)) (u3 : i_laws_toBellS_3.den) : Option (denO o_laws_toBellS_3) :=
  let v5 := ((u3.1.1.length : Nat) : Int)
  if (ltI u3.1.2.2.1 v5) then
    if 0 ≤ u3.1.2.2.1 then
      ((u3.1.1)[(u3.1.2.2.1).toNat]?).bind fun y6 =>
      (F_laws_toBell (y6, ())).bind fun r7 =>
      if 0 ≤ u3.1.2.2.1 ∧ u3.1.2.2.1 < ((u3.1.2.1.length : Nat) : Int) then
        ((u3.1.2.1)[(u3.1.2.2.1).toNat]?).bind fun y8 =>
        let v9 := (u3.1.2.1.set (u3.1.2.2.1).toNat r7.1.1)
        let v10 := (IntKind.i64.wrap (u3.1.2.2.1 + (1 : Int)))
        rec ((u3.1.1, (v9, (v10, ()))), ((), ()))
      else none
    else none
  else
    some (.inl ((u3.1.2.1, ()), ((), ())))
def L_laws_toBellS_3 (x : i_laws_toBellS_3.den) : Option (denO o_laws_toBellS_3) := iterF l_laws_toBellS_3 lots x
def F_laws_toBellS (x : denP P_laws_toBellS) : Option (denV R_laws_toBellS × denQ P_laws_toBellS) :=
  let v1 := ((x.1.length : Nat) : Int)
  if v1 = v1 ∧ 0 ≤ v1 ∧ v1 * 16 ≤ 140737488355328 ∧ v1 ≤ 9223372036854775807 then
    (L_laws_toBellS_3 ((x.1, ((List.replicate (v1).toNat (zeroD Y23)), ((0 : Int), ()))), ((), ()))).bind fun z11 =>
    match z11 with
    | .inl x12 =>
      some ((x12.1.1, ()), ())
    | .inr z11_ =>
      none
  else none
abbrev C_laws_toBellS : Con := ⟨P_laws_toBellS, R_laws_toBellS, F_laws_toBellS, false⟩
abbrev G_laws_toBellS : Env := [(146, C_laws_toBell)]
theorem g_laws_toBellS : EnvOk Try.prog G_laws_toBellS := (env_cons s_laws_toBell env_nil)
abbrev c_laws_toBellS_3 : Cut := ⟨i_laws_toBellS_3, o_laws_toBellS_3, fun x => iterF l_laws_toBellS_3 lots x⟩
theorem t_laws_toBellS_3 (rec x) : run T G_laws_toBellS [] (nav Try.f99 [1, 1, 0, 1, 0, 0]) (mk 23 i_laws_toBellS_3 x) (loopK i_laws_toBellS_3 o_laws_toBellS_3 rec) = l_laws_toBellS_3 rec x := by kernel_rfl
theorem k_laws_toBellS_3 : CutOk Try.prog 23 (.loop (nav Try.f99 [1, 1, 0, 1, 0, 0])) c_laws_toBellS_3 :=
  loop_cut (L := []) hT g_laws_toBellS t_laws_toBellS_3 (plain_ok (by kernel_rfl)) _
theorem r_laws_toBellS (x) : runFn T G_laws_toBellS [(3, c_laws_toBellS_3)] Try.f99 P_laws_toBellS R_laws_toBellS x = F_laws_toBellS x := by kernel_rfl
theorem s_laws_toBellS : CallsOk Try.prog 99 C_laws_toBellS :=
  fn_calls (L := [(3, c_laws_toBellS_3)]) hT g_laws_toBellS Try.f99 (by kernel_rfl) (by kernel_rfl) (by kernel_rfl) (seq_ok (plain_ok (by kernel_rfl)) (seq_ok (plain_ok (by kernel_rfl)) (seq_ok (seq_ok (plain_ok (by kernel_rfl)) (block_ok (by kernel_rfl) (loop_ok (by kernel_rfl) k_laws_toBellS_3))) (plain_ok (by kernel_rfl))))) r_laws_toBellS
/-! laws.toSlot -/
abbrev P_laws_toSlot : List PK := [.val Y23]
abbrev R_laws_toSlot : List VK := [.s (.dat Y23)]
def F_laws_toSlot (x : denP P_laws_toSlot) : Option (denV R_laws_toSlot × denQ P_laws_toSlot) :=
  some ((x.1, ()), ())
abbrev C_laws_toSlot : Con := ⟨P_laws_toSlot, R_laws_toSlot, F_laws_toSlot, false⟩
abbrev G_laws_toSlot : Env := []
theorem g_laws_toSlot : EnvOk Try.prog G_laws_toSlot := env_nil
theorem r_laws_toSlot (x) : runFn T G_laws_toSlot [] Try.f147 P_laws_toSlot R_laws_toSlot x = F_laws_toSlot x := by kernel_rfl
theorem s_laws_toSlot : CallsOk Try.prog 147 C_laws_toSlot :=
  fn_calls (L := []) hT g_laws_toSlot Try.f147 (by kernel_rfl) (by kernel_rfl) (by kernel_rfl) (plain_ok (by kernel_rfl)) r_laws_toSlot
/-! laws.toSlotS -/
abbrev P_laws_toSlotS : List PK := [.val Y59]
abbrev R_laws_toSlotS : List VK := [.s (.own 68 Y23)]
abbrev i_laws_toSlotS_3 : Shp := { slots := [(0, .s (.dat Y59)), (3, .s (.own 68 Y23)), (4, .s (.dat YI))], boxes := [], rows := [] }
abbrev o_laws_toSlotS_3 : List (Ex × Shp) := [(.exit 0, { slots := [(3, .s (.own 68 Y23))], boxes := [], rows := [] })]
def l_laws_toSlotS_3 (rec : i_laws_toSlotS_3.den → Option (denO o_laws_toSlotS_3)) (u3 : i_laws_toSlotS_3.den) : Option (denO o_laws_toSlotS_3) :=
  let v5 := ((u3.1.1.length : Nat) : Int)
  if (ltI u3.1.2.2.1 v5) then
    if 0 ≤ u3.1.2.2.1 then
      ((u3.1.1)[(u3.1.2.2.1).toNat]?).bind fun y6 =>
      (F_laws_toSlot (y6, ())).bind fun r7 =>
      if 0 ≤ u3.1.2.2.1 ∧ u3.1.2.2.1 < ((u3.1.2.1.length : Nat) : Int) then
        ((u3.1.2.1)[(u3.1.2.2.1).toNat]?).bind fun y8 =>
        let v9 := (u3.1.2.1.set (u3.1.2.2.1).toNat r7.1.1)
        let v10 := (IntKind.i64.wrap (u3.1.2.2.1 + (1 : Int)))
        rec ((u3.1.1, (v9, (v10, ()))), ((), ()))
      else none
    else none
  else
    some (.inl ((u3.1.2.1, ()), ((), ())))
def L_laws_toSlotS_3 (x : i_laws_toSlotS_3.den) : Option (denO o_laws_toSlotS_3) := iterF l_laws_toSlotS_3 lots x
def F_laws_toSlotS (x : denP P_laws_toSlotS) : Option (denV R_laws_toSlotS × denQ P_laws_toSlotS) :=
  let v1 := ((x.1.length : Nat) : Int)
  if v1 = v1 ∧ 0 ≤ v1 ∧ v1 * 16 ≤ 140737488355328 ∧ v1 ≤ 9223372036854775807 then
    (L_laws_toSlotS_3 ((x.1, ((List.replicate (v1).toNat (zeroD Y23)), ((0 : Int), ()))), ((), ()))).bind fun z11 =>
    match z11 with
    | .inl x12 =>
      some ((x12.1.1, ()), ())
    | .inr z11_ =>
      none
  else none
abbrev C_laws_toSlotS : Con := ⟨P_laws_toSlotS, R_laws_toSlotS, F_laws_toSlotS, false⟩
abbrev G_laws_toSlotS : Env := [(147, C_laws_toSlot)]
theorem g_laws_toSlotS : EnvOk Try.prog G_laws_toSlotS := (env_cons s_laws_toSlot env_nil)
abbrev c_laws_toSlotS_3 : Cut := ⟨i_laws_toSlotS_3, o_laws_toSlotS_3, fun x => iterF l_laws_toSlotS_3 lots x⟩
theorem t_laws_toSlotS_3 (rec x) : run T G_laws_toSlotS [] (nav Try.f100 [1, 1, 0, 1, 0, 0]) (mk 23 i_laws_toSlotS_3 x) (loopK i_laws_toSlotS_3 o_laws_toSlotS_3 rec) = l_laws_toSlotS_3 rec x := by kernel_rfl
theorem k_laws_toSlotS_3 : CutOk Try.prog 23 (.loop (nav Try.f100 [1, 1, 0, 1, 0, 0])) c_laws_toSlotS_3 :=
  loop_cut (L := []) hT g_laws_toSlotS t_laws_toSlotS_3 (plain_ok (by kernel_rfl)) _
theorem r_laws_toSlotS (x) : runFn T G_laws_toSlotS [(3, c_laws_toSlotS_3)] Try.f100 P_laws_toSlotS R_laws_toSlotS x = F_laws_toSlotS x := by kernel_rfl
theorem s_laws_toSlotS : CallsOk Try.prog 100 C_laws_toSlotS :=
  fn_calls (L := [(3, c_laws_toSlotS_3)]) hT g_laws_toSlotS Try.f100 (by kernel_rfl) (by kernel_rfl) (by kernel_rfl) (seq_ok (plain_ok (by kernel_rfl)) (seq_ok (plain_ok (by kernel_rfl)) (seq_ok (seq_ok (plain_ok (by kernel_rfl)) (block_ok (by kernel_rfl) (loop_ok (by kernel_rfl) k_laws_toSlotS_3))) (plain_ok (by kernel_rfl))))) r_laws_toSlotS
/-! laws.toPolicy -/
abbrev P_laws_toPolicy : List PK := [.val Y61]
abbrev R_laws_toPolicy : List VK := [.g [.own 22 Y22, .own 169 Y168, .own 172 Y23, .own 68 Y23]]
def F_laws_toPolicy (x : denP P_laws_toPolicy) : Option (denV R_laws_toPolicy × denQ P_laws_toPolicy) :=
  (F_laws_toInt64SS (x.1.1, ())).bind fun r1 =>
  (F_laws_toLaneS (x.1.2.1, ())).bind fun r2 =>
  (F_laws_toBellS (x.1.2.2.1, ())).bind fun r3 =>
  (F_laws_toSlotS (x.1.2.2.2.1, ())).bind fun r4 =>
  some (((r1.1.1, (r2.1.1, (r3.1.1, (r4.1.1, ())))), ()), ())
abbrev C_laws_toPolicy : Con := ⟨P_laws_toPolicy, R_laws_toPolicy, F_laws_toPolicy, false⟩
abbrev G_laws_toPolicy : Env := [(97, C_laws_toInt64SS), (98, C_laws_toLaneS), (99, C_laws_toBellS), (100, C_laws_toSlotS)]
theorem g_laws_toPolicy : EnvOk Try.prog G_laws_toPolicy := (env_cons s_laws_toInt64SS (env_cons s_laws_toLaneS (env_cons s_laws_toBellS (env_cons s_laws_toSlotS env_nil))))
theorem r_laws_toPolicy (x) : runFn T G_laws_toPolicy [] Try.f44 P_laws_toPolicy R_laws_toPolicy x = F_laws_toPolicy x := by kernel_rfl
theorem s_laws_toPolicy : CallsOk Try.prog 44 C_laws_toPolicy :=
  fn_calls (L := []) hT g_laws_toPolicy Try.f44 (by kernel_rfl) (by kernel_rfl) (by kernel_rfl) (plain_ok (by kernel_rfl)) r_laws_toPolicy
/-! spec.l1Has -/
abbrev P_spec_l1Has : List PK := [.val Y22, .val YI]
abbrev R_spec_l1Has : List VK := [.s (.dat .bool)]
abbrev i_spec_l1Has_2 : Shp := { slots := [(0, .s (.dat Y22)), (1, .s (.dat YI)), (5, .s (.dat YI))], boxes := [], rows := [] }
abbrev o_spec_l1Has_2 : List (Ex × Shp) := [(.exit 0, { slots := [], boxes := [], rows := [] }), (.ret, { slots := [(4, .s (.dat .bool))], boxes := [], rows := [] })]
def l_spec_l1Has_2 (rec : i_spec_l1Has_2.den → Option (denO o_spec_l1Has_2)) (u2 : i_spec_l1Has_2.den) : Option (denO o_spec_l1Has_2) :=
  let v2 := ((u2.1.1.length : Nat) : Int)
  if (ltI u2.1.2.2.1 v2) then
    if 0 ≤ u2.1.2.2.1 then
      ((u2.1.1)[(u2.1.2.2.1).toNat]?).bind fun y3 =>
      if (y3 == u2.1.2.1) then
        some (.inr (.inl ((true, ()), ((), ()))))
      else
        let v4 := (IntKind.i64.wrap (u2.1.2.2.1 + (1 : Int)))
        rec ((u2.1.1, (u2.1.2.1, (v4, ()))), ((), ()))
    else none
  else
    some (.inl ((), ((), ())))
def L_spec_l1Has_2 (x : i_spec_l1Has_2.den) : Option (denO o_spec_l1Has_2) := iterF l_spec_l1Has_2 lots x
def F_spec_l1Has (x : denP P_spec_l1Has) : Option (denV R_spec_l1Has × denQ P_spec_l1Has) :=
  (L_spec_l1Has_2 ((x.1, (x.2.1, ((0 : Int), ()))), ((), ()))).bind fun z5 =>
  match z5 with
  | .inl x6 =>
    some ((false, ()), ())
  | .inr z5_ =>
    match z5_ with
    | .inl x7 =>
      some ((x7.1.1, ()), ())
    | .inr z5__ =>
      none
abbrev C_spec_l1Has : Con := ⟨P_spec_l1Has, R_spec_l1Has, F_spec_l1Has, false⟩
abbrev G_spec_l1Has : Env := []
theorem g_spec_l1Has : EnvOk Try.prog G_spec_l1Has := env_nil
abbrev c_spec_l1Has_2 : Cut := ⟨i_spec_l1Has_2, o_spec_l1Has_2, fun x => iterF l_spec_l1Has_2 lots x⟩
theorem t_spec_l1Has_2 (rec x) : run T G_spec_l1Has [] (nav Try.f113 [1, 0, 1, 0, 0]) (mk 18 i_spec_l1Has_2 x) (loopK i_spec_l1Has_2 o_spec_l1Has_2 rec) = l_spec_l1Has_2 rec x := by kernel_rfl
theorem k_spec_l1Has_2 : CutOk Try.prog 18 (.loop (nav Try.f113 [1, 0, 1, 0, 0])) c_spec_l1Has_2 :=
  loop_cut (L := []) hT g_spec_l1Has t_spec_l1Has_2 (plain_ok (by kernel_rfl)) _
theorem r_spec_l1Has (x) : runFn T G_spec_l1Has [(2, c_spec_l1Has_2)] Try.f113 P_spec_l1Has R_spec_l1Has x = F_spec_l1Has x := by kernel_rfl
theorem s_spec_l1Has : CallsOk Try.prog 113 C_spec_l1Has :=
  fn_calls (L := [(2, c_spec_l1Has_2)]) hT g_spec_l1Has Try.f113 (by kernel_rfl) (by kernel_rfl) (by kernel_rfl) (seq_ok (plain_ok (by kernel_rfl)) (seq_ok (seq_ok (plain_ok (by kernel_rfl)) (block_ok (by kernel_rfl) (loop_ok (by kernel_rfl) k_spec_l1Has_2))) (plain_ok (by kernel_rfl)))) r_spec_l1Has
/-! spec.l6Owns -/
abbrev P_spec_l6Owns : List PK := [.ptr Y61]
abbrev R_spec_l6Owns : List VK := [.s (.dat YI)]
abbrev i_spec_l6Owns_18 : Shp := { slots := [(0, .s (.pd Y61)), (5, .s (.own 2 YI)), (6, .s (.dat YI)), (7, .s (.dat YI))], boxes := [], rows := [] }
abbrev o_spec_l6Owns_18 : List (Ex × Shp) := [(.exit 6, { slots := [(0, .s (.pd Y61)), (5, .s (.own 2 YI)), (6, .s (.dat YI))], boxes := [], rows := [] }), (.ret, { slots := [(2, .s (.dat YI))], boxes := [], rows := [] })]
def l_spec_l6Owns_18 (rec : i_spec_l6Owns_18.den → Option (denO o_spec_l6Owns_18)) (u18 : i_spec_l6Owns_18.den) : Option (denO o_spec_l6Owns_18) :=
  if 0 ≤ u18.1.2.2.1 then
    ((u18.1.1.1)[(u18.1.2.2.1).toNat]?).bind fun y49 =>
    let v50 := ((y49.length : Nat) : Int)
    if (ltI u18.1.2.2.2.1 v50) then
      if 0 ≤ u18.1.2.2.1 then
        ((u18.1.1.1)[(u18.1.2.2.1).toNat]?).bind fun y51 =>
        if 0 ≤ u18.1.2.2.2.1 then
          ((y51)[(u18.1.2.2.2.1).toNat]?).bind fun y52 =>
          (F_spec_l1Has (u18.1.2.1, y52, ())).bind fun r53 =>
          if r53.1.1 then
            some (.inr (.inl (((6 : Int), ()), ((), ()))))
          else
            if 0 ≤ u18.1.2.2.1 then
              ((u18.1.1.1)[(u18.1.2.2.1).toNat]?).bind fun y54 =>
              if 0 ≤ u18.1.2.2.2.1 then
                ((y54)[(u18.1.2.2.2.1).toNat]?).bind fun y55 =>
                if (u18.1.2.1.length + [y55].length) * 8 ≤ 140737488355328 then
                  let v56 := (u18.1.2.1 ++ [y55])
                  let v57 := (IntKind.i64.wrap (u18.1.2.2.2.1 + (1 : Int)))
                  rec ((u18.1.1, (v56, (u18.1.2.2.1, (v57, ())))), ((), ()))
                else none
              else none
            else none
        else none
      else none
    else
      some (.inl ((u18.1.1, (u18.1.2.1, (u18.1.2.2.1, ()))), ((), ())))
  else none
def L_spec_l6Owns_18 (x : i_spec_l6Owns_18.den) : Option (denO o_spec_l6Owns_18) := iterF l_spec_l6Owns_18 lots x
abbrev i_spec_l6Owns_9 : Shp := { slots := [(0, .s (.pd Y61)), (3, .s (.dat YI)), (4, .s (.dat YI)), (41, .s (.pd Y61)), (42, .s (.pd Y61)), (43, .s (.pd Y57)), (44, .s (.dat Y57)), (45, .s (.dat YI)), (46, .s (.pd Y22)), (47, .s (.dat Y22)), (48, .s (.dat YI)), (49, .s (.dat .bool))], boxes := [], rows := [] }
abbrev o_spec_l6Owns_9 : List (Ex × Shp) := [(.exit 2, { slots := [(0, .s (.pd Y61)), (3, .s (.dat YI)), (41, .s (.pd Y61)), (42, .s (.pd Y61)), (43, .s (.pd Y57)), (44, .s (.dat Y57)), (45, .s (.dat YI)), (46, .s (.pd Y22)), (47, .s (.dat Y22)), (48, .s (.dat YI)), (49, .s (.dat .bool))], boxes := [], rows := [] }), (.ret, { slots := [(2, .s (.dat YI))], boxes := [], rows := [] })]
def l_spec_l6Owns_9 (rec : i_spec_l6Owns_9.den → Option (denO o_spec_l6Owns_9)) (u9 : i_spec_l6Owns_9.den) : Option (denO o_spec_l6Owns_9) :=
  if 0 ≤ u9.1.2.1 then
    ((u9.1.1.1)[(u9.1.2.1).toNat]?).bind fun y21 =>
    let v22 := ((y21.length : Nat) : Int)
    if (ltI u9.1.2.2.1 v22) then
      if 0 ≤ u9.1.2.1 then
        ((u9.1.1.1)[(u9.1.2.1).toNat]?).bind fun y23 =>
        if 0 ≤ u9.1.2.2.1 then
          ((y23)[(u9.1.2.2.1).toNat]?).bind fun y24 =>
          (F_spec_l1In (y24, (0 : Int), (23 : Int), ())).bind fun r25 =>
          if (!r25.1.1) then
            some (.inr (.inl (((3 : Int), ()), ((), ()))))
          else
            let v26 := (IntKind.i64.wrap (u9.1.2.2.1 + (1 : Int)))
            rec ((u9.1.1, (u9.1.2.1, (v26, (u9.1.2.2.2.1, (u9.1.2.2.2.2.1, (u9.1.2.2.2.2.2.1, (u9.1.2.2.2.2.2.2.1, (u9.1.2.2.2.2.2.2.2.1, (u9.1.2.2.2.2.2.2.2.2.1, (u9.1.2.2.2.2.2.2.2.2.2.1, (u9.1.2.2.2.2.2.2.2.2.2.2.1, (u9.1.2.2.2.2.2.2.2.2.2.2.2.1, ())))))))))))), ((), ()))
        else none
      else none
    else
      some (.inl ((u9.1.1, (u9.1.2.1, (u9.1.2.2.2.1, (u9.1.2.2.2.2.1, (u9.1.2.2.2.2.2.1, (u9.1.2.2.2.2.2.2.1, (u9.1.2.2.2.2.2.2.2.1, (u9.1.2.2.2.2.2.2.2.2.1, (u9.1.2.2.2.2.2.2.2.2.2.1, (u9.1.2.2.2.2.2.2.2.2.2.2.1, (u9.1.2.2.2.2.2.2.2.2.2.2.2.1, ()))))))))))), ((), ())))
  else none
def L_spec_l6Owns_9 (x : i_spec_l6Owns_9.den) : Option (denO o_spec_l6Owns_9) := iterF l_spec_l6Owns_9 lots x
abbrev i_spec_l6Owns_15 : Shp := { slots := [(0, .s (.pd Y61)), (5, .s (.own 2 YI)), (6, .s (.dat YI))], boxes := [], rows := [] }
abbrev o_spec_l6Owns_15 : List (Ex × Shp) := [(.exit 4, { slots := [], boxes := [], rows := [] }), (.ret, { slots := [(2, .s (.dat YI))], boxes := [], rows := [] })]
def l_spec_l6Owns_15 (rec : i_spec_l6Owns_15.den → Option (denO o_spec_l6Owns_15)) (u15 : i_spec_l6Owns_15.den) : Option (denO o_spec_l6Owns_15) :=
  let v42 := ((u15.1.1.1.length : Nat) : Int)
  if (ltI u15.1.2.2.1 v42) then
    (L_spec_l6Owns_18 ((u15.1.1, (u15.1.2.1, (u15.1.2.2.1, ((0 : Int), ())))), ((), ()))).bind fun z58 =>
    match z58 with
    | .inl x59 =>
      let v60 := (IntKind.i64.wrap (x59.1.2.2.1 + (1 : Int)))
      rec ((x59.1.1, (x59.1.2.1, (v60, ()))), ((), ()))
    | .inr z58_ =>
      match z58_ with
      | .inl x61 =>
        some (.inr (.inl ((x61.1.1, ()), ((), ()))))
      | .inr z58__ =>
        none
  else
    some (.inl ((), ((), ())))
def L_spec_l6Owns_15 (x : i_spec_l6Owns_15.den) : Option (denO o_spec_l6Owns_15) := iterF l_spec_l6Owns_15 lots x
abbrev i_spec_l6Owns_4 : Shp := { slots := [(0, .s (.pd Y61)), (3, .s (.dat YI))], boxes := [], rows := [] }
abbrev o_spec_l6Owns_4 : List (Ex × Shp) := [(.exit 0, { slots := [(0, .s (.pd Y61))], boxes := [], rows := [] }), (.ret, { slots := [(2, .s (.dat YI))], boxes := [], rows := [] })]
def l_spec_l6Owns_4 (rec : i_spec_l6Owns_4.den → Option (denO o_spec_l6Owns_4)) (u4 : i_spec_l6Owns_4.den) : Option (denO o_spec_l6Owns_4) :=
  let v12 := ((u4.1.1.1.length : Nat) : Int)
  if (ltI u4.1.2.1 v12) then
    if 0 ≤ u4.1.2.1 then
      ((u4.1.1.1)[(u4.1.2.1).toNat]?).bind fun y13 =>
      let v14 := ((y13.length : Nat) : Int)
      if (ltI v14 (1 : Int)) = false then
        if 0 ≤ u4.1.2.1 then
          ((u4.1.1.1)[(u4.1.2.1).toNat]?).bind fun y15 =>
          let v16 := ((y15.length : Nat) : Int)
          if (ltI (5 : Int) v16) then
            some (.inr (.inl (((2 : Int), ()), ((), ()))))
          else
            (L_spec_l6Owns_9 ((u4.1.1, (u4.1.2.1, ((0 : Int), (u4.1.1, (u4.1.1, (u4.1.1.1, (u4.1.1.1, (u4.1.2.1, (y15, (y15, (v16, ((ltI (5 : Int) v16), ())))))))))))), ((), ()))).bind fun z27 =>
            match z27 with
            | .inl x28 =>
              let v29 := (IntKind.i64.wrap (x28.1.2.1 + (1 : Int)))
              rec ((x28.1.1, (v29, ())), ((), ()))
            | .inr z27_ =>
              match z27_ with
              | .inl x30 =>
                some (.inr (.inl ((x30.1.1, ()), ((), ()))))
              | .inr z27__ =>
                none
        else none
      else
        some (.inr (.inl (((2 : Int), ()), ((), ()))))
    else none
  else
    some (.inl ((u4.1.1, ()), ((), ())))
def L_spec_l6Owns_4 (x : i_spec_l6Owns_4.den) : Option (denO o_spec_l6Owns_4) := iterF l_spec_l6Owns_4 lots x
def F_spec_l6Owns (x : denP P_spec_l6Owns) : Option (denV R_spec_l6Owns × denQ P_spec_l6Owns) :=
  let v1 := ((x.1.1.length : Nat) : Int)
  if (ltI v1 (1 : Int)) = false then
    let v2 := ((x.1.1.length : Nat) : Int)
    if (ltI (3 : Int) v2) then
      some (((2 : Int), ()), ())
    else
      (L_spec_l6Owns_4 ((x.1, ((0 : Int), ())), ((), ()))).bind fun z31 =>
      match z31 with
      | .inl x32 =>
        (L_spec_l6Owns_15 ((x32.1.1, (([] : List (den YI)), ((0 : Int), ()))), ((), ()))).bind fun z62 =>
        match z62 with
        | .inl x63 =>
          some (((0 : Int), ()), ())
        | .inr z62_ =>
          match z62_ with
          | .inl x64 =>
            some ((x64.1.1, ()), ())
          | .inr z62__ =>
            none
      | .inr z31_ =>
        match z31_ with
        | .inl x65 =>
          some ((x65.1.1, ()), ())
        | .inr z31__ =>
          none
  else
    some (((2 : Int), ()), ())
abbrev C_spec_l6Owns : Con := ⟨P_spec_l6Owns, R_spec_l6Owns, F_spec_l6Owns, false⟩
abbrev G_spec_l6Owns : Env := [(60, C_spec_l1In), (113, C_spec_l1Has)]
theorem g_spec_l6Owns : EnvOk Try.prog G_spec_l6Owns := (env_cons s_spec_l1In (env_cons s_spec_l1Has env_nil))
abbrev c_spec_l6Owns_18 : Cut := ⟨i_spec_l6Owns_18, o_spec_l6Owns_18, fun x => iterF l_spec_l6Owns_18 lots x⟩
theorem t_spec_l6Owns_18 (rec x) : run T G_spec_l6Owns [] (nav Try.f166 [1, 1, 1, 1, 0, 1, 0, 0, 1, 0, 0, 1, 0, 0]) (mk 122 i_spec_l6Owns_18 x) (loopK i_spec_l6Owns_18 o_spec_l6Owns_18 rec) = l_spec_l6Owns_18 rec x := by kernel_rfl
theorem k_spec_l6Owns_18 : CutOk Try.prog 122 (.loop (nav Try.f166 [1, 1, 1, 1, 0, 1, 0, 0, 1, 0, 0, 1, 0, 0])) c_spec_l6Owns_18 :=
  loop_cut (L := []) hT g_spec_l6Owns t_spec_l6Owns_18 (plain_ok (by kernel_rfl)) _
abbrev c_spec_l6Owns_9 : Cut := ⟨i_spec_l6Owns_9, o_spec_l6Owns_9, fun x => iterF l_spec_l6Owns_9 lots x⟩
theorem t_spec_l6Owns_9 (rec x) : run T G_spec_l6Owns [] (nav Try.f166 [1, 1, 0, 1, 0, 0, 1, 0, 0, 1, 1, 0, 0]) (mk 122 i_spec_l6Owns_9 x) (loopK i_spec_l6Owns_9 o_spec_l6Owns_9 rec) = l_spec_l6Owns_9 rec x := by kernel_rfl
theorem k_spec_l6Owns_9 : CutOk Try.prog 122 (.loop (nav Try.f166 [1, 1, 0, 1, 0, 0, 1, 0, 0, 1, 1, 0, 0])) c_spec_l6Owns_9 :=
  loop_cut (L := []) hT g_spec_l6Owns t_spec_l6Owns_9 (plain_ok (by kernel_rfl)) _
abbrev c_spec_l6Owns_15 : Cut := ⟨i_spec_l6Owns_15, o_spec_l6Owns_15, fun x => iterF l_spec_l6Owns_15 lots x⟩
theorem t_spec_l6Owns_15 (rec x) : run T G_spec_l6Owns [(18, c_spec_l6Owns_18)] (nav Try.f166 [1, 1, 1, 1, 0, 1, 0, 0]) (mk 122 i_spec_l6Owns_15 x) (loopK i_spec_l6Owns_15 o_spec_l6Owns_15 rec) = l_spec_l6Owns_15 rec x := by kernel_rfl
theorem k_spec_l6Owns_15 : CutOk Try.prog 122 (.loop (nav Try.f166 [1, 1, 1, 1, 0, 1, 0, 0])) c_spec_l6Owns_15 :=
  loop_cut (L := [(18, c_spec_l6Owns_18)]) hT g_spec_l6Owns t_spec_l6Owns_15 (seq_ok (plain_ok (by kernel_rfl)) (seq_ok (block_ok (by kernel_rfl) (seq_ok (plain_ok (by kernel_rfl)) (block_ok (by kernel_rfl) (loop_ok (by kernel_rfl) k_spec_l6Owns_18)))) (plain_ok (by kernel_rfl)))) _
abbrev c_spec_l6Owns_4 : Cut := ⟨i_spec_l6Owns_4, o_spec_l6Owns_4, fun x => iterF l_spec_l6Owns_4 lots x⟩
theorem t_spec_l6Owns_4 (rec x) : run T G_spec_l6Owns [(9, c_spec_l6Owns_9)] (nav Try.f166 [1, 1, 0, 1, 0, 0]) (mk 122 i_spec_l6Owns_4 x) (loopK i_spec_l6Owns_4 o_spec_l6Owns_4 rec) = l_spec_l6Owns_4 rec x := by kernel_rfl
theorem k_spec_l6Owns_4 : CutOk Try.prog 122 (.loop (nav Try.f166 [1, 1, 0, 1, 0, 0])) c_spec_l6Owns_4 :=
  loop_cut (L := [(9, c_spec_l6Owns_9)]) hT g_spec_l6Owns t_spec_l6Owns_4 (seq_ok (plain_ok (by kernel_rfl)) (seq_ok (block_ok (by kernel_rfl) (seq_ok (plain_ok (by kernel_rfl)) (seq_ok (plain_ok (by kernel_rfl)) (block_ok (by kernel_rfl) (loop_ok (by kernel_rfl) k_spec_l6Owns_9))))) (plain_ok (by kernel_rfl)))) _
theorem r_spec_l6Owns (x) : runFn T G_spec_l6Owns [(18, c_spec_l6Owns_18), (9, c_spec_l6Owns_9), (15, c_spec_l6Owns_15), (4, c_spec_l6Owns_4)] Try.f166 P_spec_l6Owns R_spec_l6Owns x = F_spec_l6Owns x := by kernel_rfl
theorem s_spec_l6Owns : CallsOk Try.prog 166 C_spec_l6Owns :=
  fn_calls (L := [(18, c_spec_l6Owns_18), (9, c_spec_l6Owns_9), (15, c_spec_l6Owns_15), (4, c_spec_l6Owns_4)]) hT g_spec_l6Owns Try.f166 (by kernel_rfl) (by kernel_rfl) (by kernel_rfl) (seq_ok (plain_ok (by kernel_rfl)) (seq_ok (plain_ok (by kernel_rfl)) (seq_ok (seq_ok (plain_ok (by kernel_rfl)) (block_ok (by kernel_rfl) (loop_ok (by kernel_rfl) k_spec_l6Owns_4))) (seq_ok (plain_ok (by kernel_rfl)) (seq_ok (seq_ok (plain_ok (by kernel_rfl)) (block_ok (by kernel_rfl) (loop_ok (by kernel_rfl) k_spec_l6Owns_15))) (plain_ok (by kernel_rfl))))))) r_spec_l6Owns
/-! spec.l6Guest -/
abbrev P_spec_l6Guest : List PK := [.ptr Y61, .val YI]
abbrev R_spec_l6Guest : List VK := [.s (.dat .bool)]
def F_spec_l6Guest (x : denP P_spec_l6Guest) : Option (denV R_spec_l6Guest × denQ P_spec_l6Guest) :=
  let v1 := ((x.1.1.length : Nat) : Int)
  let v2 := (IntKind.i64.wrap (v1 - (1 : Int)))
  (F_spec_l1In (x.2.1, (0 : Int), v2, ())).bind fun r3 =>
  some ((r3.1.1, ()), ())
abbrev C_spec_l6Guest : Con := ⟨P_spec_l6Guest, R_spec_l6Guest, F_spec_l6Guest, false⟩
abbrev G_spec_l6Guest : Env := [(60, C_spec_l1In)]
theorem g_spec_l6Guest : EnvOk Try.prog G_spec_l6Guest := (env_cons s_spec_l1In env_nil)
theorem r_spec_l6Guest (x) : runFn T G_spec_l6Guest [] Try.f140 P_spec_l6Guest R_spec_l6Guest x = F_spec_l6Guest x := by kernel_rfl
theorem s_spec_l6Guest : CallsOk Try.prog 140 C_spec_l6Guest :=
  fn_calls (L := []) hT g_spec_l6Guest Try.f140 (by kernel_rfl) (by kernel_rfl) (by kernel_rfl) (plain_ok (by kernel_rfl)) r_spec_l6Guest
/-! spec.l6Ends -/
abbrev P_spec_l6Ends : List PK := [.ptr Y61, .val YI, .val YI]
abbrev R_spec_l6Ends : List VK := [.s (.dat YI)]
def F_spec_l6Ends (x : denP P_spec_l6Ends) : Option (denV R_spec_l6Ends × denQ P_spec_l6Ends) :=
  (F_spec_l6Guest (x.1, x.2.1, ())).bind fun r1 =>
  if (!r1.1.1) = false then
    (F_spec_l6Guest (x.1, x.2.2.1, ())).bind fun r2 =>
    if (!r2.1.1) then
      some (((4 : Int), ()), ())
    else
      if (x.2.1 == x.2.2.1) then
        some (((1 : Int), ()), ())
      else
        some (((0 : Int), ()), ())
  else
    some (((4 : Int), ()), ())
abbrev C_spec_l6Ends : Con := ⟨P_spec_l6Ends, R_spec_l6Ends, F_spec_l6Ends, false⟩
abbrev G_spec_l6Ends : Env := [(140, C_spec_l6Guest)]
theorem g_spec_l6Ends : EnvOk Try.prog G_spec_l6Ends := (env_cons s_spec_l6Guest env_nil)
theorem r_spec_l6Ends (x) : runFn T G_spec_l6Ends [] Try.f190 P_spec_l6Ends R_spec_l6Ends x = F_spec_l6Ends x := by kernel_rfl
theorem s_spec_l6Ends : CallsOk Try.prog 190 C_spec_l6Ends :=
  fn_calls (L := []) hT g_spec_l6Ends Try.f190 (by kernel_rfl) (by kernel_rfl) (by kernel_rfl) (plain_ok (by kernel_rfl)) r_spec_l6Ends
/-! spec.l6Owner -/
abbrev P_spec_l6Owner : List PK := [.ptr Y61, .val YI]
abbrev R_spec_l6Owner : List VK := [.s (.dat YI)]
abbrev i_spec_l6Owner_2 : Shp := { slots := [(0, .s (.pd Y61)), (1, .s (.dat YI)), (5, .s (.dat YI))], boxes := [], rows := [] }
abbrev o_spec_l6Owner_2 : List (Ex × Shp) := [(.exit 0, { slots := [], boxes := [], rows := [] }), (.ret, { slots := [(4, .s (.dat YI))], boxes := [], rows := [] })]
def l_spec_l6Owner_2 (rec : i_spec_l6Owner_2.den → Option (denO o_spec_l6Owner_2)) (u2 : i_spec_l6Owner_2.den) : Option (denO o_spec_l6Owner_2) :=
  let v3 := ((u2.1.1.1.length : Nat) : Int)
  if (ltI u2.1.2.2.1 v3) then
    if 0 ≤ u2.1.2.2.1 then
      ((u2.1.1.1)[(u2.1.2.2.1).toNat]?).bind fun y4 =>
      (F_spec_l1Has (y4, u2.1.2.1, ())).bind fun r5 =>
      if r5.1.1 then
        some (.inr (.inl ((u2.1.2.2.1, ()), ((), ()))))
      else
        let v6 := (IntKind.i64.wrap (u2.1.2.2.1 + (1 : Int)))
        rec ((u2.1.1, (u2.1.2.1, (v6, ()))), ((), ()))
    else none
  else
    some (.inl ((), ((), ())))
def L_spec_l6Owner_2 (x : i_spec_l6Owner_2.den) : Option (denO o_spec_l6Owner_2) := iterF l_spec_l6Owner_2 lots x
def F_spec_l6Owner (x : denP P_spec_l6Owner) : Option (denV R_spec_l6Owner × denQ P_spec_l6Owner) :=
  (L_spec_l6Owner_2 ((x.1, (x.2.1, ((0 : Int), ()))), ((), ()))).bind fun z7 =>
  match z7 with
  | .inl x8 =>
    some (((-1 : Int), ()), ())
  | .inr z7_ =>
    match z7_ with
    | .inl x9 =>
      some ((x9.1.1, ()), ())
    | .inr z7__ =>
      none
abbrev C_spec_l6Owner : Con := ⟨P_spec_l6Owner, R_spec_l6Owner, F_spec_l6Owner, false⟩
abbrev G_spec_l6Owner : Env := [(113, C_spec_l1Has)]
theorem g_spec_l6Owner : EnvOk Try.prog G_spec_l6Owner := (env_cons s_spec_l1Has env_nil)
abbrev c_spec_l6Owner_2 : Cut := ⟨i_spec_l6Owner_2, o_spec_l6Owner_2, fun x => iterF l_spec_l6Owner_2 lots x⟩
theorem t_spec_l6Owner_2 (rec x) : run T G_spec_l6Owner [] (nav Try.f191 [1, 0, 1, 0, 0]) (mk 25 i_spec_l6Owner_2 x) (loopK i_spec_l6Owner_2 o_spec_l6Owner_2 rec) = l_spec_l6Owner_2 rec x := by kernel_rfl
theorem k_spec_l6Owner_2 : CutOk Try.prog 25 (.loop (nav Try.f191 [1, 0, 1, 0, 0])) c_spec_l6Owner_2 :=
  loop_cut (L := []) hT g_spec_l6Owner t_spec_l6Owner_2 (plain_ok (by kernel_rfl)) _
theorem r_spec_l6Owner (x) : runFn T G_spec_l6Owner [(2, c_spec_l6Owner_2)] Try.f191 P_spec_l6Owner R_spec_l6Owner x = F_spec_l6Owner x := by kernel_rfl
theorem s_spec_l6Owner : CallsOk Try.prog 191 C_spec_l6Owner :=
  fn_calls (L := [(2, c_spec_l6Owner_2)]) hT g_spec_l6Owner Try.f191 (by kernel_rfl) (by kernel_rfl) (by kernel_rfl) (seq_ok (plain_ok (by kernel_rfl)) (seq_ok (seq_ok (plain_ok (by kernel_rfl)) (block_ok (by kernel_rfl) (loop_ok (by kernel_rfl) k_spec_l6Owner_2))) (plain_ok (by kernel_rfl)))) r_spec_l6Owner
/-! spec.l6At -/
abbrev P_spec_l6At : List PK := [.val Y168, .val YI, .val YI]
abbrev R_spec_l6At : List VK := [.s (.dat .bool)]
def F_spec_l6At (x : denP P_spec_l6At) : Option (denV R_spec_l6At × denQ P_spec_l6At) :=
  if (x.1.1 == x.2.1) = true then
    if (x.1.2.2.2.1 == x.2.2.1) = false then
      if (x.1.2.1 == x.2.1) = true then
        some (((x.1.2.2.2.2.1 == x.2.2.1), ()), ())
      else
        some ((false, ()), ())
    else
      some ((true, ()), ())
  else
    if (x.1.2.1 == x.2.1) = true then
      some (((x.1.2.2.2.2.1 == x.2.2.1), ()), ())
    else
      some ((false, ()), ())
abbrev C_spec_l6At : Con := ⟨P_spec_l6At, R_spec_l6At, F_spec_l6At, false⟩
abbrev G_spec_l6At : Env := []
theorem g_spec_l6At : EnvOk Try.prog G_spec_l6At := env_nil
theorem r_spec_l6At (x) : runFn T G_spec_l6At [] Try.f192 P_spec_l6At R_spec_l6At x = F_spec_l6At x := by kernel_rfl
theorem s_spec_l6At : CallsOk Try.prog 192 C_spec_l6At :=
  fn_calls (L := []) hT g_spec_l6At Try.f192 (by kernel_rfl) (by kernel_rfl) (by kernel_rfl) (plain_ok (by kernel_rfl)) r_spec_l6At
/-! spec.l6Lanes -/
abbrev P_spec_l6Lanes : List PK := [.ptr Y61]
abbrev R_spec_l6Lanes : List VK := [.s (.dat YI)]
abbrev i_spec_l6Lanes_15 : Shp := { slots := [(0, .s (.pd Y61)), (3, .s (.dat YI)), (4, .s (.ptr 4 0)), (6, .s (.dat YI)), (52, .s (.ptr 4 3)), (53, .s (.dat YI)), (54, .s (.dat .bool)), (55, .s (.dat .bool)), (58, .s (.ptr 4 4)), (59, .s (.dat YI)), (60, .s (.dat .bool)), (61, .s (.dat .bool))], boxes := [(4, [.dat YI, .dat YI, .dat YI, .dat YI, .dat YI])], rows := [] }
abbrev o_spec_l6Lanes_15 : List (Ex × Shp) := [(.exit 2, { slots := [(0, .s (.pd Y61)), (3, .s (.dat YI)), (52, .s (.ptr 4 3)), (53, .s (.dat YI)), (54, .s (.dat .bool)), (55, .s (.dat .bool)), (58, .s (.ptr 4 4)), (59, .s (.dat YI)), (60, .s (.dat .bool)), (61, .s (.dat .bool))], boxes := [(4, [.dat YI, .dat YI, .dat YI, .dat YI, .dat YI])], rows := [] }), (.ret, { slots := [(2, .s (.dat YI))], boxes := [], rows := [] })]
def l_spec_l6Lanes_15 (rec : i_spec_l6Lanes_15.den → Option (denO o_spec_l6Lanes_15)) (u15 : i_spec_l6Lanes_15.den) : Option (denO o_spec_l6Lanes_15) :=
  if (ltI u15.1.2.2.2.1 u15.1.2.1) then
    if 0 ≤ u15.1.2.2.2.1 then
      ((u15.1.1.2.1)[(u15.1.2.2.2.1).toNat]?).bind fun y25 =>
      if (y25.2.2.1 == u15.2.1.1.2.2.1) = false then
        (F_spec_l6At (y25, u15.2.1.1.1, u15.2.1.1.2.2.2.1, ())).bind fun r26 =>
        if r26.1.1 = false then
          (F_spec_l6At (y25, u15.2.1.1.2.1, u15.2.1.1.2.2.2.2.1, ())).bind fun r27 =>
          if r27.1.1 then
            some (.inr (.inl (((6 : Int), ()), ((), ()))))
          else
            let v28 := (IntKind.i64.wrap (u15.1.2.2.2.1 + (1 : Int)))
            rec ((u15.1.1, (u15.1.2.1, ((), (v28, ((), (u15.1.2.2.2.2.2.1, (u15.1.2.2.2.2.2.2.1, (u15.1.2.2.2.2.2.2.2.1, ((), (u15.1.2.2.2.2.2.2.2.2.2.1, (u15.1.2.2.2.2.2.2.2.2.2.2.1, (u15.1.2.2.2.2.2.2.2.2.2.2.2.1, ())))))))))))), (((u15.2.1.1.1, (u15.2.1.1.2.1, (u15.2.1.1.2.2.1, (u15.2.1.1.2.2.2.1, (u15.2.1.1.2.2.2.2.1, ()))))), ()), ()))
        else
          some (.inr (.inl (((6 : Int), ()), ((), ()))))
      else
        some (.inr (.inl (((6 : Int), ()), ((), ()))))
    else none
  else
    some (.inl ((u15.1.1, (u15.1.2.1, ((), (u15.1.2.2.2.2.2.1, (u15.1.2.2.2.2.2.2.1, (u15.1.2.2.2.2.2.2.2.1, ((), (u15.1.2.2.2.2.2.2.2.2.2.1, (u15.1.2.2.2.2.2.2.2.2.2.2.1, (u15.1.2.2.2.2.2.2.2.2.2.2.2.1, ())))))))))), (((u15.2.1.1.1, (u15.2.1.1.2.1, (u15.2.1.1.2.2.1, (u15.2.1.1.2.2.2.1, (u15.2.1.1.2.2.2.2.1, ()))))), ()), ())))
def L_spec_l6Lanes_15 (x : i_spec_l6Lanes_15.den) : Option (denO o_spec_l6Lanes_15) := iterF l_spec_l6Lanes_15 lots x
abbrev i_spec_l6Lanes_4 : Shp := { slots := [(0, .s (.pd Y61)), (3, .s (.dat YI))], boxes := [], rows := [] }
abbrev o_spec_l6Lanes_4 : List (Ex × Shp) := [(.exit 0, { slots := [], boxes := [], rows := [] }), (.ret, { slots := [(2, .s (.dat YI))], boxes := [], rows := [] })]
def l_spec_l6Lanes_4 (rec : i_spec_l6Lanes_4.den → Option (denO o_spec_l6Lanes_4)) (u4 : i_spec_l6Lanes_4.den) : Option (denO o_spec_l6Lanes_4) :=
  let v15 := ((u4.1.1.2.1.length : Nat) : Int)
  if (ltI u4.1.2.1 v15) then
    if 0 ≤ u4.1.2.1 then
      ((u4.1.1.2.1)[(u4.1.2.1).toNat]?).bind fun y16 =>
      (F_spec_l6Ends (u4.1.1, y16.1, y16.2.1, ())).bind fun r17 =>
      if (r17.1.1 != (0 : Int)) then
        some (.inr (.inl ((r17.1.1, ()), ((), ()))))
      else
        (F_spec_l1In (y16.2.2.1, (0 : Int), (23 : Int), ())).bind fun r18 =>
        if (!r18.1.1) = false then
          (F_spec_l1In (y16.2.2.2.1, (5 : Int), (6 : Int), ())).bind fun r19 =>
          if (!r19.1.1) = false then
            (F_spec_l1In (y16.2.2.2.2.1, (5 : Int), (6 : Int), ())).bind fun r20 =>
            if (!r20.1.1) then
              some (.inr (.inl (((3 : Int), ()), ((), ()))))
            else
              (F_spec_l6Owner (u4.1.1, y16.2.2.1, ())).bind fun r21 =>
              if (leI (0 : Int) r21.1.1) then
                some (.inr (.inl (((6 : Int), ()), ((), ()))))
              else
                (L_spec_l6Lanes_15 ((u4.1.1, (u4.1.2.1, ((), ((0 : Int), ((), (y16.2.2.2.1, (r19.1.1, ((!r19.1.1), ((), (y16.2.2.2.2.1, (r20.1.1, ((!r20.1.1), ())))))))))))), (((y16.1, (y16.2.1, (y16.2.2.1, (y16.2.2.2.1, (y16.2.2.2.2.1, ()))))), ()), ()))).bind fun z29 =>
                match z29 with
                | .inl x30 =>
                  let v31 := (IntKind.i64.wrap (x30.1.2.1 + (1 : Int)))
                  rec ((x30.1.1, (v31, ())), ((), ()))
                | .inr z29_ =>
                  match z29_ with
                  | .inl x32 =>
                    some (.inr (.inl ((x32.1.1, ()), ((), ()))))
                  | .inr z29__ =>
                    none
          else
            some (.inr (.inl (((3 : Int), ()), ((), ()))))
        else
          some (.inr (.inl (((3 : Int), ()), ((), ()))))
    else none
  else
    some (.inl ((), ((), ())))
def L_spec_l6Lanes_4 (x : i_spec_l6Lanes_4.den) : Option (denO o_spec_l6Lanes_4) := iterF l_spec_l6Lanes_4 lots x
def F_spec_l6Lanes (x : denP P_spec_l6Lanes) : Option (denV R_spec_l6Lanes × denQ P_spec_l6Lanes) :=
  let v1 := ((x.1.2.1.length : Nat) : Int)
  if (ltI (4 : Int) v1) = false then
    let v2 := ((x.1.2.2.1.length : Nat) : Int)
    if (ltI (4 : Int) v2) then
      some (((2 : Int), ()), ())
    else
      (L_spec_l6Lanes_4 ((x.1, ((0 : Int), ())), ((), ()))).bind fun z33 =>
      match z33 with
      | .inl x34 =>
        some (((0 : Int), ()), ())
      | .inr z33_ =>
        match z33_ with
        | .inl x35 =>
          some ((x35.1.1, ()), ())
        | .inr z33__ =>
          none
  else
    some (((2 : Int), ()), ())
abbrev C_spec_l6Lanes : Con := ⟨P_spec_l6Lanes, R_spec_l6Lanes, F_spec_l6Lanes, false⟩
abbrev G_spec_l6Lanes : Env := [(60, C_spec_l1In), (190, C_spec_l6Ends), (191, C_spec_l6Owner), (192, C_spec_l6At)]
theorem g_spec_l6Lanes : EnvOk Try.prog G_spec_l6Lanes := (env_cons s_spec_l1In (env_cons s_spec_l6Ends (env_cons s_spec_l6Owner (env_cons s_spec_l6At env_nil))))
abbrev c_spec_l6Lanes_15 : Cut := ⟨i_spec_l6Lanes_15, o_spec_l6Lanes_15, fun x => iterF l_spec_l6Lanes_15 lots x⟩
theorem t_spec_l6Lanes_15 (rec x) : run T G_spec_l6Lanes [] (nav Try.f167 [1, 1, 0, 1, 0, 0, 1, 0, 0, 1, 1, 1, 1, 1, 0, 0]) (mk 101 i_spec_l6Lanes_15 x) (loopK i_spec_l6Lanes_15 o_spec_l6Lanes_15 rec) = l_spec_l6Lanes_15 rec x := by kernel_rfl
theorem k_spec_l6Lanes_15 : CutOk Try.prog 101 (.loop (nav Try.f167 [1, 1, 0, 1, 0, 0, 1, 0, 0, 1, 1, 1, 1, 1, 0, 0])) c_spec_l6Lanes_15 :=
  loop_cut (L := []) hT g_spec_l6Lanes t_spec_l6Lanes_15 (plain_ok (by kernel_rfl)) _
abbrev c_spec_l6Lanes_4 : Cut := ⟨i_spec_l6Lanes_4, o_spec_l6Lanes_4, fun x => iterF l_spec_l6Lanes_4 lots x⟩
theorem t_spec_l6Lanes_4 (rec x) : run T G_spec_l6Lanes [(15, c_spec_l6Lanes_15)] (nav Try.f167 [1, 1, 0, 1, 0, 0]) (mk 101 i_spec_l6Lanes_4 x) (loopK i_spec_l6Lanes_4 o_spec_l6Lanes_4 rec) = l_spec_l6Lanes_4 rec x := by kernel_rfl
theorem k_spec_l6Lanes_4 : CutOk Try.prog 101 (.loop (nav Try.f167 [1, 1, 0, 1, 0, 0])) c_spec_l6Lanes_4 :=
  loop_cut (L := [(15, c_spec_l6Lanes_15)]) hT g_spec_l6Lanes t_spec_l6Lanes_4 (seq_ok (plain_ok (by kernel_rfl)) (seq_ok (block_ok (by kernel_rfl) (seq_ok (plain_ok (by kernel_rfl)) (seq_ok (plain_ok (by kernel_rfl)) (seq_ok (plain_ok (by kernel_rfl)) (seq_ok (plain_ok (by kernel_rfl)) (seq_ok (plain_ok (by kernel_rfl)) (block_ok (by kernel_rfl) (loop_ok (by kernel_rfl) k_spec_l6Lanes_15)))))))) (plain_ok (by kernel_rfl)))) _
theorem r_spec_l6Lanes (x) : runFn T G_spec_l6Lanes [(15, c_spec_l6Lanes_15), (4, c_spec_l6Lanes_4)] Try.f167 P_spec_l6Lanes R_spec_l6Lanes x = F_spec_l6Lanes x := by kernel_rfl
theorem s_spec_l6Lanes : CallsOk Try.prog 167 C_spec_l6Lanes :=
  fn_calls (L := [(15, c_spec_l6Lanes_15), (4, c_spec_l6Lanes_4)]) hT g_spec_l6Lanes Try.f167 (by kernel_rfl) (by kernel_rfl) (by kernel_rfl) (seq_ok (plain_ok (by kernel_rfl)) (seq_ok (plain_ok (by kernel_rfl)) (seq_ok (seq_ok (plain_ok (by kernel_rfl)) (block_ok (by kernel_rfl) (loop_ok (by kernel_rfl) k_spec_l6Lanes_4))) (plain_ok (by kernel_rfl))))) r_spec_l6Lanes
/-! spec.l6Rest -/
abbrev P_spec_l6Rest : List PK := [.ptr Y61]
abbrev R_spec_l6Rest : List VK := [.s (.dat YI)]
abbrev i_spec_l6Rest_9 : Shp := { slots := [(0, .s (.pd Y61)), (3, .s (.dat YI)), (4, .s (.ptr 4 0)), (6, .s (.dat YI))], boxes := [(4, [.dat YI, .dat YI])], rows := [] }
abbrev o_spec_l6Rest_9 : List (Ex × Shp) := [(.exit 2, { slots := [(0, .s (.pd Y61)), (3, .s (.dat YI))], boxes := [], rows := [] }), (.ret, { slots := [(2, .s (.dat YI))], boxes := [], rows := [] })]
def l_spec_l6Rest_9 (rec : i_spec_l6Rest_9.den → Option (denO o_spec_l6Rest_9)) (u9 : i_spec_l6Rest_9.den) : Option (denO o_spec_l6Rest_9) :=
  if (ltI u9.1.2.2.2.1 u9.1.2.1) then
    if 0 ≤ u9.1.2.2.2.1 then
      ((u9.1.1.2.2.1)[(u9.1.2.2.2.1).toNat]?).bind fun y11 =>
      if ((y11.1 == u9.2.1.1.1) && ((y11.2.1 == u9.2.1.1.2.1) && true)) then
        some (.inr (.inl (((6 : Int), ()), ((), ()))))
      else
        let v12 := (IntKind.i64.wrap (u9.1.2.2.2.1 + (1 : Int)))
        rec ((u9.1.1, (u9.1.2.1, ((), (v12, ())))), (((u9.2.1.1.1, (u9.2.1.1.2.1, ())), ()), ()))
    else none
  else
    some (.inl ((u9.1.1, (u9.1.2.1, ())), ((), ())))
def L_spec_l6Rest_9 (x : i_spec_l6Rest_9.den) : Option (denO o_spec_l6Rest_9) := iterF l_spec_l6Rest_9 lots x
abbrev i_spec_l6Rest_16 : Shp := { slots := [(0, .s (.pd Y61)), (7, .s (.dat YI))], boxes := [], rows := [] }
abbrev o_spec_l6Rest_16 : List (Ex × Shp) := [(.exit 4, { slots := [], boxes := [], rows := [] }), (.ret, { slots := [(2, .s (.dat YI))], boxes := [], rows := [] })]
def l_spec_l6Rest_16 (rec : i_spec_l6Rest_16.den → Option (denO o_spec_l6Rest_16)) (u16 : i_spec_l6Rest_16.den) : Option (denO o_spec_l6Rest_16) :=
  let v25 := ((u16.1.1.2.2.2.1.length : Nat) : Int)
  if (ltI u16.1.2.1 v25) then
    if 0 ≤ u16.1.2.1 then
      ((u16.1.1.2.2.2.1)[(u16.1.2.1).toNat]?).bind fun y26 =>
      (F_spec_l6Guest (u16.1.1, y26.1, ())).bind fun r27 =>
      if (!r27.1.1) then
        some (.inr (.inl (((4 : Int), ()), ((), ()))))
      else
        if 0 ≤ u16.1.2.1 then
          ((u16.1.1.2.2.2.1)[(u16.1.2.1).toNat]?).bind fun y28 =>
          (F_spec_l1In (y28.2.1, (1 : Int), (50 : Int), ())).bind fun r29 =>
          if (!r29.1.1) then
            some (.inr (.inl (((3 : Int), ()), ((), ()))))
          else
            let v30 := (IntKind.i64.wrap (u16.1.2.1 + (1 : Int)))
            rec ((u16.1.1, (v30, ())), ((), ()))
        else none
    else none
  else
    some (.inl ((), ((), ())))
def L_spec_l6Rest_16 (x : i_spec_l6Rest_16.den) : Option (denO o_spec_l6Rest_16) := iterF l_spec_l6Rest_16 lots x
abbrev i_spec_l6Rest_2 : Shp := { slots := [(0, .s (.pd Y61)), (3, .s (.dat YI))], boxes := [], rows := [] }
abbrev o_spec_l6Rest_2 : List (Ex × Shp) := [(.exit 0, { slots := [(0, .s (.pd Y61))], boxes := [], rows := [] }), (.ret, { slots := [(2, .s (.dat YI))], boxes := [], rows := [] })]
def l_spec_l6Rest_2 (rec : i_spec_l6Rest_2.den → Option (denO o_spec_l6Rest_2)) (u2 : i_spec_l6Rest_2.den) : Option (denO o_spec_l6Rest_2) :=
  let v7 := ((u2.1.1.2.2.1.length : Nat) : Int)
  if (ltI u2.1.2.1 v7) then
    if 0 ≤ u2.1.2.1 then
      ((u2.1.1.2.2.1)[(u2.1.2.1).toNat]?).bind fun y8 =>
      (F_spec_l6Ends (u2.1.1, y8.1, y8.2.1, ())).bind fun r9 =>
      if (r9.1.1 != (0 : Int)) then
        some (.inr (.inl ((r9.1.1, ()), ((), ()))))
      else
        (L_spec_l6Rest_9 ((u2.1.1, (u2.1.2.1, ((), ((0 : Int), ())))), (((y8.1, (y8.2.1, ())), ()), ()))).bind fun z13 =>
        match z13 with
        | .inl x14 =>
          let v15 := (IntKind.i64.wrap (x14.1.2.1 + (1 : Int)))
          rec ((x14.1.1, (v15, ())), ((), ()))
        | .inr z13_ =>
          match z13_ with
          | .inl x16 =>
            some (.inr (.inl ((x16.1.1, ()), ((), ()))))
          | .inr z13__ =>
            none
    else none
  else
    some (.inl ((u2.1.1, ()), ((), ())))
def L_spec_l6Rest_2 (x : i_spec_l6Rest_2.den) : Option (denO o_spec_l6Rest_2) := iterF l_spec_l6Rest_2 lots x
def F_spec_l6Rest (x : denP P_spec_l6Rest) : Option (denV R_spec_l6Rest × denQ P_spec_l6Rest) :=
  (L_spec_l6Rest_2 ((x.1, ((0 : Int), ())), ((), ()))).bind fun z17 =>
  match z17 with
  | .inl x18 =>
    let v19 := ((x18.1.1.2.2.2.1.length : Nat) : Int)
    if (ltI v19 (1 : Int)) = false then
      let v20 := ((x18.1.1.2.2.2.1.length : Nat) : Int)
      if (ltI (8 : Int) v20) then
        some (((2 : Int), ()), ())
      else
        (L_spec_l6Rest_16 ((x18.1.1, ((0 : Int), ())), ((), ()))).bind fun z31 =>
        match z31 with
        | .inl x32 =>
          some (((0 : Int), ()), ())
        | .inr z31_ =>
          match z31_ with
          | .inl x33 =>
            some ((x33.1.1, ()), ())
          | .inr z31__ =>
            none
    else
      some (((2 : Int), ()), ())
  | .inr z17_ =>
    match z17_ with
    | .inl x34 =>
      some ((x34.1.1, ()), ())
    | .inr z17__ =>
      none
abbrev C_spec_l6Rest : Con := ⟨P_spec_l6Rest, R_spec_l6Rest, F_spec_l6Rest, false⟩
abbrev G_spec_l6Rest : Env := [(60, C_spec_l1In), (140, C_spec_l6Guest), (190, C_spec_l6Ends)]
theorem g_spec_l6Rest : EnvOk Try.prog G_spec_l6Rest := (env_cons s_spec_l1In (env_cons s_spec_l6Guest (env_cons s_spec_l6Ends env_nil)))
abbrev c_spec_l6Rest_9 : Cut := ⟨i_spec_l6Rest_9, o_spec_l6Rest_9, fun x => iterF l_spec_l6Rest_9 lots x⟩
theorem t_spec_l6Rest_9 (rec x) : run T G_spec_l6Rest [] (nav Try.f168 [1, 0, 1, 0, 0, 1, 0, 0, 1, 1, 1, 0, 0]) (mk 91 i_spec_l6Rest_9 x) (loopK i_spec_l6Rest_9 o_spec_l6Rest_9 rec) = l_spec_l6Rest_9 rec x := by kernel_rfl
theorem k_spec_l6Rest_9 : CutOk Try.prog 91 (.loop (nav Try.f168 [1, 0, 1, 0, 0, 1, 0, 0, 1, 1, 1, 0, 0])) c_spec_l6Rest_9 :=
  loop_cut (L := []) hT g_spec_l6Rest t_spec_l6Rest_9 (plain_ok (by kernel_rfl)) _
abbrev c_spec_l6Rest_16 : Cut := ⟨i_spec_l6Rest_16, o_spec_l6Rest_16, fun x => iterF l_spec_l6Rest_16 lots x⟩
theorem t_spec_l6Rest_16 (rec x) : run T G_spec_l6Rest [] (nav Try.f168 [1, 1, 1, 0, 1, 0, 0]) (mk 91 i_spec_l6Rest_16 x) (loopK i_spec_l6Rest_16 o_spec_l6Rest_16 rec) = l_spec_l6Rest_16 rec x := by kernel_rfl
theorem k_spec_l6Rest_16 : CutOk Try.prog 91 (.loop (nav Try.f168 [1, 1, 1, 0, 1, 0, 0])) c_spec_l6Rest_16 :=
  loop_cut (L := []) hT g_spec_l6Rest t_spec_l6Rest_16 (plain_ok (by kernel_rfl)) _
abbrev c_spec_l6Rest_2 : Cut := ⟨i_spec_l6Rest_2, o_spec_l6Rest_2, fun x => iterF l_spec_l6Rest_2 lots x⟩
theorem t_spec_l6Rest_2 (rec x) : run T G_spec_l6Rest [(9, c_spec_l6Rest_9)] (nav Try.f168 [1, 0, 1, 0, 0]) (mk 91 i_spec_l6Rest_2 x) (loopK i_spec_l6Rest_2 o_spec_l6Rest_2 rec) = l_spec_l6Rest_2 rec x := by kernel_rfl
theorem k_spec_l6Rest_2 : CutOk Try.prog 91 (.loop (nav Try.f168 [1, 0, 1, 0, 0])) c_spec_l6Rest_2 :=
  loop_cut (L := [(9, c_spec_l6Rest_9)]) hT g_spec_l6Rest t_spec_l6Rest_2 (seq_ok (plain_ok (by kernel_rfl)) (seq_ok (block_ok (by kernel_rfl) (seq_ok (plain_ok (by kernel_rfl)) (seq_ok (plain_ok (by kernel_rfl)) (seq_ok (plain_ok (by kernel_rfl)) (block_ok (by kernel_rfl) (loop_ok (by kernel_rfl) k_spec_l6Rest_9)))))) (plain_ok (by kernel_rfl)))) _
theorem r_spec_l6Rest (x) : runFn T G_spec_l6Rest [(9, c_spec_l6Rest_9), (16, c_spec_l6Rest_16), (2, c_spec_l6Rest_2)] Try.f168 P_spec_l6Rest R_spec_l6Rest x = F_spec_l6Rest x := by kernel_rfl
theorem s_spec_l6Rest : CallsOk Try.prog 168 C_spec_l6Rest :=
  fn_calls (L := [(9, c_spec_l6Rest_9), (16, c_spec_l6Rest_16), (2, c_spec_l6Rest_2)]) hT g_spec_l6Rest Try.f168 (by kernel_rfl) (by kernel_rfl) (by kernel_rfl) (seq_ok (plain_ok (by kernel_rfl)) (seq_ok (seq_ok (plain_ok (by kernel_rfl)) (block_ok (by kernel_rfl) (loop_ok (by kernel_rfl) k_spec_l6Rest_2))) (seq_ok (plain_ok (by kernel_rfl)) (seq_ok (seq_ok (plain_ok (by kernel_rfl)) (block_ok (by kernel_rfl) (loop_ok (by kernel_rfl) k_spec_l6Rest_16))) (plain_ok (by kernel_rfl)))))) r_spec_l6Rest
/-! spec.l6Fault -/
abbrev P_spec_l6Fault : List PK := [.ptr Y61]
abbrev R_spec_l6Fault : List VK := [.s (.dat YI)]
def F_spec_l6Fault (x : denP P_spec_l6Fault) : Option (denV R_spec_l6Fault × denQ P_spec_l6Fault) :=
  (F_spec_l6Owns (x.1, ())).bind fun r1 =>
  if (r1.1.1 != (0 : Int)) then
    some ((r1.1.1, ()), ())
  else
    (F_spec_l6Lanes (x.1, ())).bind fun r2 =>
    if (r2.1.1 != (0 : Int)) then
      some ((r2.1.1, ()), ())
    else
      (F_spec_l6Rest (x.1, ())).bind fun r3 =>
      some ((r3.1.1, ()), ())
abbrev C_spec_l6Fault : Con := ⟨P_spec_l6Fault, R_spec_l6Fault, F_spec_l6Fault, false⟩
abbrev G_spec_l6Fault : Env := [(166, C_spec_l6Owns), (167, C_spec_l6Lanes), (168, C_spec_l6Rest)]
theorem g_spec_l6Fault : EnvOk Try.prog G_spec_l6Fault := (env_cons s_spec_l6Owns (env_cons s_spec_l6Lanes (env_cons s_spec_l6Rest env_nil)))
theorem r_spec_l6Fault (x) : runFn T G_spec_l6Fault [] Try.f139 P_spec_l6Fault R_spec_l6Fault x = F_spec_l6Fault x := by kernel_rfl
theorem s_spec_l6Fault : CallsOk Try.prog 139 C_spec_l6Fault :=
  fn_calls (L := []) hT g_spec_l6Fault Try.f139 (by kernel_rfl) (by kernel_rfl) (by kernel_rfl) (plain_ok (by kernel_rfl)) r_spec_l6Fault
/-! spec.l6Asked -/
abbrev P_spec_l6Asked : List PK := [.ptr Y61, .val YI]
abbrev R_spec_l6Asked : List VK := [.s (.dat YI)]
def F_spec_l6Asked (x : denP P_spec_l6Asked) : Option (denV R_spec_l6Asked × denQ P_spec_l6Asked) :=
  (F_spec_l6Fault (x.1, ())).bind fun r1 =>
  if (r1.1.1 != (0 : Int)) then
    some ((r1.1.1, ()), ())
  else
    (F_spec_l6Guest (x.1, x.2.1, ())).bind fun r2 =>
    if (!r2.1.1) then
      some (((4 : Int), ()), ())
    else
      some (((0 : Int), ()), ())
abbrev C_spec_l6Asked : Con := ⟨P_spec_l6Asked, R_spec_l6Asked, F_spec_l6Asked, false⟩
abbrev G_spec_l6Asked : Env := [(139, C_spec_l6Fault), (140, C_spec_l6Guest)]
theorem g_spec_l6Asked : EnvOk Try.prog G_spec_l6Asked := (env_cons s_spec_l6Fault (env_cons s_spec_l6Guest env_nil))
theorem r_spec_l6Asked (x) : runFn T G_spec_l6Asked [] Try.f87 P_spec_l6Asked R_spec_l6Asked x = F_spec_l6Asked x := by kernel_rfl
theorem s_spec_l6Asked : CallsOk Try.prog 87 C_spec_l6Asked :=
  fn_calls (L := []) hT g_spec_l6Asked Try.f87 (by kernel_rfl) (by kernel_rfl) (by kernel_rfl) (plain_ok (by kernel_rfl)) r_spec_l6Asked
/-! spec.FramesOf -/
abbrev P_spec_FramesOf : List PK := [.val Y61, .val YI]
abbrev R_spec_FramesOf : List VK := [.s (.dat Y23)]
abbrev i_spec_FramesOf_6 : Shp := { slots := [(1, .s (.dat YI)), (2, .s (.ptr 2 0)), (4, .s (.ptr 4 0)), (6, .s (.dat YI)), (7, .s (.dat YI))], boxes := [(2, [.dat Y57, .dat Y58, .dat Y59, .dat Y59]), (4, [.dat YI, .dat YI])], rows := [] }
abbrev o_spec_FramesOf_6 : List (Ex × Shp) := [(.exit 0, { slots := [(4, .s (.ptr 4 0)), (6, .s (.dat YI))], boxes := [(4, [.dat YI, .dat YI])], rows := [] })]
def l_spec_FramesOf_6 (rec : i_spec_FramesOf_6.den → Option (denO o_spec_FramesOf_6)) (u6 : i_spec_FramesOf_6.den) : Option (denO o_spec_FramesOf_6) :=
  let v4 := ((u6.2.1.1.2.2.2.1.length : Nat) : Int)
  if (ltI u6.1.2.2.2.2.1 v4) then
    if 0 ≤ u6.1.2.2.2.2.1 then
      ((u6.2.1.1.2.2.2.1)[(u6.1.2.2.2.2.1).toNat]?).bind fun y5 =>
      if (y5.1 == u6.1.1) then
        if 0 ≤ u6.1.2.2.2.2.1 then
          ((u6.2.1.1.2.2.2.1)[(u6.1.2.2.2.2.1).toNat]?).bind fun y6 =>
          let v7 := (IntKind.i64.wrap (u6.1.2.2.2.1 + y6.2.1))
          let v8 := (IntKind.i64.wrap (u6.1.2.2.2.2.1 + (1 : Int)))
          rec ((u6.1.1, ((), ((), (v7, (v8, ()))))), (((u6.2.1.1.1, (u6.2.1.1.2.1, (u6.2.1.1.2.2.1, (u6.2.1.1.2.2.2.1, ())))), ((u6.2.1.2.1.1, (u6.2.1.2.1.2.1, ())), ())), ()))
        else none
      else
        let v9 := (IntKind.i64.wrap (u6.1.2.2.2.2.1 + (1 : Int)))
        rec ((u6.1.1, ((), ((), (u6.1.2.2.2.1, (v9, ()))))), (((u6.2.1.1.1, (u6.2.1.1.2.1, (u6.2.1.1.2.2.1, (u6.2.1.1.2.2.2.1, ())))), ((u6.2.1.2.1.1, (u6.2.1.2.1.2.1, ())), ())), ()))
    else none
  else
    some (.inl (((), (u6.1.2.2.2.1, ())), (((u6.2.1.2.1.1, (u6.2.1.2.1.2.1, ())), ()), ())))
def L_spec_FramesOf_6 (x : i_spec_FramesOf_6.den) : Option (denO o_spec_FramesOf_6) := iterF l_spec_FramesOf_6 lots x
def F_spec_FramesOf (x : denP P_spec_FramesOf) : Option (denV R_spec_FramesOf × denQ P_spec_FramesOf) :=
  (F_spec_l6Asked (x.1, x.2.1, ())).bind fun r1 =>
  if (r1.1.1 != (0 : Int)) then
    some (((r1.1.1, ((0 : Int), ())), ()), ())
  else
    (L_spec_FramesOf_6 ((x.2.1, ((), ((), ((0 : Int), ((0 : Int), ()))))), (((x.1.1, (x.1.2.1, (x.1.2.2.1, (x.1.2.2.2.1, ())))), (((0 : Int), ((0 : Int), ())), ())), ()))).bind fun z10 =>
    match z10 with
    | .inl x11 =>
      some ((((0 : Int), (x11.1.2.1, ())), ()), ())
    | .inr z10_ =>
      none
abbrev C_spec_FramesOf : Con := ⟨P_spec_FramesOf, R_spec_FramesOf, F_spec_FramesOf, false⟩
abbrev G_spec_FramesOf : Env := [(87, C_spec_l6Asked)]
theorem g_spec_FramesOf : EnvOk Try.prog G_spec_FramesOf := (env_cons s_spec_l6Asked env_nil)
abbrev c_spec_FramesOf_6 : Cut := ⟨i_spec_FramesOf_6, o_spec_FramesOf_6, fun x => iterF l_spec_FramesOf_6 lots x⟩
theorem t_spec_FramesOf_6 (rec x) : run T G_spec_FramesOf [] (nav Try.f88 [1, 1, 1, 0, 1, 0, 0]) (mk 39 i_spec_FramesOf_6 x) (loopK i_spec_FramesOf_6 o_spec_FramesOf_6 rec) = l_spec_FramesOf_6 rec x := by kernel_rfl
theorem k_spec_FramesOf_6 : CutOk Try.prog 39 (.loop (nav Try.f88 [1, 1, 1, 0, 1, 0, 0])) c_spec_FramesOf_6 :=
  loop_cut (L := []) hT g_spec_FramesOf t_spec_FramesOf_6 (plain_ok (by kernel_rfl)) _
theorem r_spec_FramesOf (x) : runFn T G_spec_FramesOf [(6, c_spec_FramesOf_6)] Try.f88 P_spec_FramesOf R_spec_FramesOf x = F_spec_FramesOf x := by kernel_rfl
theorem s_spec_FramesOf : CallsOk Try.prog 88 C_spec_FramesOf :=
  fn_calls (L := [(6, c_spec_FramesOf_6)]) hT g_spec_FramesOf Try.f88 (by kernel_rfl) (by kernel_rfl) (by kernel_rfl) (seq_ok (plain_ok (by kernel_rfl)) (seq_ok (plain_ok (by kernel_rfl)) (seq_ok (plain_ok (by kernel_rfl)) (seq_ok (seq_ok (plain_ok (by kernel_rfl)) (block_ok (by kernel_rfl) (loop_ok (by kernel_rfl) k_spec_FramesOf_6))) (plain_ok (by kernel_rfl)))))) r_spec_FramesOf
/-! spec.l1Max -/
abbrev P_spec_l1Max : List PK := [.val YI, .val YI]
abbrev R_spec_l1Max : List VK := [.s (.dat YI)]
def F_spec_l1Max (x : denP P_spec_l1Max) : Option (denV R_spec_l1Max × denQ P_spec_l1Max) :=
  if (ltI x.2.1 x.1) then
    some ((x.1, ()), ())
  else
    some ((x.2.1, ()), ())
abbrev C_spec_l1Max : Con := ⟨P_spec_l1Max, R_spec_l1Max, F_spec_l1Max, false⟩
abbrev G_spec_l1Max : Env := []
theorem g_spec_l1Max : EnvOk Try.prog G_spec_l1Max := env_nil
theorem r_spec_l1Max (x) : runFn T G_spec_l1Max [] Try.f89 P_spec_l1Max R_spec_l1Max x = F_spec_l1Max x := by kernel_rfl
theorem s_spec_l1Max : CallsOk Try.prog 89 C_spec_l1Max :=
  fn_calls (L := []) hT g_spec_l1Max Try.f89 (by kernel_rfl) (by kernel_rfl) (by kernel_rfl) (plain_ok (by kernel_rfl)) r_spec_l1Max
/-! spec.GapOf -/
abbrev P_spec_GapOf : List PK := [.val Y61, .val YI]
abbrev R_spec_GapOf : List VK := [.s (.dat Y23)]
abbrev i_spec_GapOf_9 : Shp := { slots := [(1, .s (.dat YI)), (2, .s (.ptr 2 0)), (4, .s (.ptr 4 0)), (6, .s (.dat YI)), (7, .s (.dat YI)), (8, .s (.dat YI))], boxes := [(2, [.dat Y57, .dat Y58, .dat Y59, .dat Y59]), (4, [.dat YI, .dat YI])], rows := [] }
abbrev o_spec_GapOf_9 : List (Ex × Shp) := [(.exit 0, { slots := [(4, .s (.ptr 4 0)), (6, .s (.dat YI))], boxes := [(4, [.dat YI, .dat YI])], rows := [] })]
def l_spec_GapOf_9 (rec : i_spec_GapOf_9.den → Option (denO o_spec_GapOf_9)) (u9 : i_spec_GapOf_9.den) : Option (denO o_spec_GapOf_9) :=
  let v5 := ((u9.2.1.1.2.2.2.1.length : Nat) : Int)
  let v6 := (IntKind.i64.wrap ((2 : Int) * v5))
  if (ltI u9.1.2.2.2.2.2.1 v6) then
    let v7 := ((u9.2.1.1.2.2.2.1.length : Nat) : Int)
    if v7 = 0 then none else
    let v8 := ((u9.1.2.2.2.2.2.1).tmod v7)
    if 0 ≤ v8 then
      ((u9.2.1.1.2.2.2.1)[(v8).toNat]?).bind fun y9 =>
      if (y9.1 == u9.1.1) then
        let v10 := (IntKind.i64.wrap (u9.1.2.2.2.2.2.1 + (1 : Int)))
        rec ((u9.1.1, ((), ((), (u9.1.2.2.2.1, ((0 : Int), (v10, ())))))), (((u9.2.1.1.1, (u9.2.1.1.2.1, (u9.2.1.1.2.2.1, (u9.2.1.1.2.2.2.1, ())))), ((u9.2.1.2.1.1, (u9.2.1.2.1.2.1, ())), ())), ()))
      else
        let v11 := (IntKind.i64.wrap (u9.1.2.2.2.2.1 + y9.2.1))
        (F_spec_l1Max (u9.1.2.2.2.1, v11, ())).bind fun r12 =>
        let v13 := (IntKind.i64.wrap (u9.1.2.2.2.2.2.1 + (1 : Int)))
        rec ((u9.1.1, ((), ((), (r12.1.1, (v11, (v13, ())))))), (((u9.2.1.1.1, (u9.2.1.1.2.1, (u9.2.1.1.2.2.1, (u9.2.1.1.2.2.2.1, ())))), ((u9.2.1.2.1.1, (u9.2.1.2.1.2.1, ())), ())), ()))
    else none
  else
    some (.inl (((), (u9.1.2.2.2.1, ())), (((u9.2.1.2.1.1, (u9.2.1.2.1.2.1, ())), ()), ())))
def L_spec_GapOf_9 (x : i_spec_GapOf_9.den) : Option (denO o_spec_GapOf_9) := iterF l_spec_GapOf_9 lots x
def F_spec_GapOf (x : denP P_spec_GapOf) : Option (denV R_spec_GapOf × denQ P_spec_GapOf) :=
  (F_spec_l6Asked (x.1, x.2.1, ())).bind fun r1 =>
  if (r1.1.1 != (0 : Int)) then
    some (((r1.1.1, ((0 : Int), ())), ()), ())
  else
    (F_spec_FramesOf (x.1, x.2.1, ())).bind fun r2 =>
    if (r2.1.1.2.1 == (0 : Int)) then
      some ((((10 : Int), ((0 : Int), ())), ()), ())
    else
      (L_spec_GapOf_9 ((x.2.1, ((), ((), ((0 : Int), ((0 : Int), ((0 : Int), ())))))), (((x.1.1, (x.1.2.1, (x.1.2.2.1, (x.1.2.2.2.1, ())))), (((0 : Int), ((0 : Int), ())), ())), ()))).bind fun z14 =>
      match z14 with
      | .inl x15 =>
        some ((((0 : Int), (x15.1.2.1, ())), ()), ())
      | .inr z14_ =>
        none
abbrev C_spec_GapOf : Con := ⟨P_spec_GapOf, R_spec_GapOf, F_spec_GapOf, false⟩
abbrev G_spec_GapOf : Env := [(87, C_spec_l6Asked), (88, C_spec_FramesOf), (89, C_spec_l1Max)]
theorem g_spec_GapOf : EnvOk Try.prog G_spec_GapOf := (env_cons s_spec_l6Asked (env_cons s_spec_FramesOf (env_cons s_spec_l1Max env_nil)))
abbrev c_spec_GapOf_9 : Cut := ⟨i_spec_GapOf_9, o_spec_GapOf_9, fun x => iterF l_spec_GapOf_9 lots x⟩
theorem t_spec_GapOf_9 (rec x) : run T G_spec_GapOf [] (nav Try.f39 [1, 1, 1, 1, 1, 0, 1, 0, 0]) (mk 52 i_spec_GapOf_9 x) (loopK i_spec_GapOf_9 o_spec_GapOf_9 rec) = l_spec_GapOf_9 rec x := by kernel_rfl
theorem k_spec_GapOf_9 : CutOk Try.prog 52 (.loop (nav Try.f39 [1, 1, 1, 1, 1, 0, 1, 0, 0])) c_spec_GapOf_9 :=
  loop_cut (L := []) hT g_spec_GapOf t_spec_GapOf_9 (plain_ok (by kernel_rfl)) _
theorem r_spec_GapOf (x) : runFn T G_spec_GapOf [(9, c_spec_GapOf_9)] Try.f39 P_spec_GapOf R_spec_GapOf x = F_spec_GapOf x := by kernel_rfl
theorem s_spec_GapOf : CallsOk Try.prog 39 C_spec_GapOf :=
  fn_calls (L := [(9, c_spec_GapOf_9)]) hT g_spec_GapOf Try.f39 (by kernel_rfl) (by kernel_rfl) (by kernel_rfl) (seq_ok (plain_ok (by kernel_rfl)) (seq_ok (plain_ok (by kernel_rfl)) (seq_ok (plain_ok (by kernel_rfl)) (seq_ok (plain_ok (by kernel_rfl)) (seq_ok (plain_ok (by kernel_rfl)) (seq_ok (seq_ok (plain_ok (by kernel_rfl)) (block_ok (by kernel_rfl) (loop_ok (by kernel_rfl) k_spec_GapOf_9))) (plain_ok (by kernel_rfl)))))))) r_spec_GapOf
/-! (*impl.Policy).ownFault -/
abbrev P_impl_Policy_ownFault : List PK := [.ptr Y61]
abbrev R_impl_Policy_ownFault : List VK := [.s (.dat YI)]
abbrev i_impl_Policy_ownFault_10 : Shp := { slots := [(3, .s (.mp)), (4, .s (.dat .bool)), (20, .s (.dat Y57)), (21, .s (.dat YI)), (22, .s (.dat YI)), (30, .s (.dat Y22)), (31, .s (.dat YI)), (32, .s (.dat YI))], boxes := [], rows := [] }
abbrev o_impl_Policy_ownFault_10 : List (Ex × Shp) := [(.exit 2, { slots := [(3, .s (.mp)), (4, .s (.dat .bool)), (20, .s (.dat Y57)), (21, .s (.dat YI)), (22, .s (.dat YI))], boxes := [], rows := [] }), (.ret, { slots := [(2, .s (.dat YI))], boxes := [], rows := [] })]
def l_impl_Policy_ownFault_10 (rec : i_impl_Policy_ownFault_10.den → Option (denO o_impl_Policy_ownFault_10)) (u10 : i_impl_Policy_ownFault_10.den) : Option (denO o_impl_Policy_ownFault_10) :=
  if (ltI u10.1.2.2.2.2.2.2.2.1 u10.1.2.2.2.2.2.2.1) then
    if 0 ≤ u10.1.2.2.2.2.2.2.2.1 then
      ((u10.1.2.2.2.2.2.1)[(u10.1.2.2.2.2.2.2.2.1).toNat]?).bind fun y17 =>
      (F_impl_within (y17, (0 : Int), (23 : Int), ())).bind fun r18 =>
      if (!r18.1.1) then
        some (.inr (.inl (((3 : Int), ()), ((), ()))))
      else
        if u10.1.2.1 = false then
          let v19 := (IntKind.i64.wrap (u10.1.2.2.2.2.2.2.2.1 + (1 : Int)))
          rec (((setM u10.1.1 y17 true), ((getM u10.1.1 y17), (u10.1.2.2.1, (u10.1.2.2.2.1, (u10.1.2.2.2.2.1, (u10.1.2.2.2.2.2.1, (u10.1.2.2.2.2.2.2.1, (v19, ())))))))), ((), ()))
        else
          let v20 := (IntKind.i64.wrap (u10.1.2.2.2.2.2.2.2.1 + (1 : Int)))
          rec (((setM u10.1.1 y17 true), (true, (u10.1.2.2.1, (u10.1.2.2.2.1, (u10.1.2.2.2.2.1, (u10.1.2.2.2.2.2.1, (u10.1.2.2.2.2.2.2.1, (v20, ())))))))), ((), ()))
    else none
  else
    some (.inl ((u10.1.1, (u10.1.2.1, (u10.1.2.2.1, (u10.1.2.2.2.1, (u10.1.2.2.2.2.1, ()))))), ((), ())))
def L_impl_Policy_ownFault_10 (x : i_impl_Policy_ownFault_10.den) : Option (denO o_impl_Policy_ownFault_10) := iterF l_impl_Policy_ownFault_10 lots x
abbrev i_impl_Policy_ownFault_5 : Shp := { slots := [(3, .s (.mp)), (4, .s (.dat .bool)), (20, .s (.dat Y57)), (21, .s (.dat YI)), (22, .s (.dat YI))], boxes := [], rows := [] }
abbrev o_impl_Policy_ownFault_5 : List (Ex × Shp) := [(.exit 0, { slots := [(4, .s (.dat .bool))], boxes := [], rows := [] }), (.ret, { slots := [(2, .s (.dat YI))], boxes := [], rows := [] })]
def l_impl_Policy_ownFault_5 (rec : i_impl_Policy_ownFault_5.den → Option (denO o_impl_Policy_ownFault_5)) (u5 : i_impl_Policy_ownFault_5.den) : Option (denO o_impl_Policy_ownFault_5) :=
  if (ltI u5.1.2.2.2.2.1 u5.1.2.2.2.1) then
    if 0 ≤ u5.1.2.2.2.2.1 then
      ((u5.1.2.2.1)[(u5.1.2.2.2.2.1).toNat]?).bind fun y11 =>
      let v12 := ((y11.length : Nat) : Int)
      (F_impl_within (v12, (1 : Int), (5 : Int), ())).bind fun r13 =>
      if (!r13.1.1) then
        some (.inr (.inl (((2 : Int), ()), ((), ()))))
      else
        let v14 := ((y11.length : Nat) : Int)
        (L_impl_Policy_ownFault_10 ((u5.1.1, (u5.1.2.1, (u5.1.2.2.1, (u5.1.2.2.2.1, (u5.1.2.2.2.2.1, (y11, (v14, ((0 : Int), ())))))))), ((), ()))).bind fun z21 =>
        match z21 with
        | .inl x22 =>
          let v23 := (IntKind.i64.wrap (x22.1.2.2.2.2.1 + (1 : Int)))
          rec ((x22.1.1, (x22.1.2.1, (x22.1.2.2.1, (x22.1.2.2.2.1, (v23, ()))))), ((), ()))
        | .inr z21_ =>
          match z21_ with
          | .inl x24 =>
            some (.inr (.inl ((x24.1.1, ()), ((), ()))))
          | .inr z21__ =>
            none
    else none
  else
    some (.inl ((u5.1.2.1, ()), ((), ())))
def L_impl_Policy_ownFault_5 (x : i_impl_Policy_ownFault_5.den) : Option (denO o_impl_Policy_ownFault_5) := iterF l_impl_Policy_ownFault_5 lots x
def F_impl_Policy_ownFault (x : denP P_impl_Policy_ownFault) : Option (denV R_impl_Policy_ownFault × denQ P_impl_Policy_ownFault) :=
  let v1 := ((x.1.1.length : Nat) : Int)
  (F_impl_within (v1, (1 : Int), (3 : Int), ())).bind fun r2 =>
  if (!r2.1.1) then
    some (((2 : Int), ()), ())
  else
    let v3 := ((x.1.1.length : Nat) : Int)
    (L_impl_Policy_ownFault_5 ((([] : List (Int × Bool)), (false, (x.1.1, (v3, ((0 : Int), ()))))), ((), ()))).bind fun z25 =>
    match z25 with
    | .inl x26 =>
      if x26.1.1 then
        some (((6 : Int), ()), ())
      else
        some (((0 : Int), ()), ())
    | .inr z25_ =>
      match z25_ with
      | .inl x27 =>
        some ((x27.1.1, ()), ())
      | .inr z25__ =>
        none
abbrev C_impl_Policy_ownFault : Con := ⟨P_impl_Policy_ownFault, R_impl_Policy_ownFault, F_impl_Policy_ownFault, false⟩
abbrev G_impl_Policy_ownFault : Env := [(63, C_impl_within)]
theorem g_impl_Policy_ownFault : EnvOk Try.prog G_impl_Policy_ownFault := (env_cons s_impl_within env_nil)
abbrev c_impl_Policy_ownFault_10 : Cut := ⟨i_impl_Policy_ownFault_10, o_impl_Policy_ownFault_10, fun x => iterF l_impl_Policy_ownFault_10 lots x⟩
theorem t_impl_Policy_ownFault_10 (rec x) : run T G_impl_Policy_ownFault [] (nav Try.f141 [1, 1, 1, 0, 1, 0, 0, 1, 1, 0, 0, 1, 1, 1, 0, 0]) (mk 50 i_impl_Policy_ownFault_10 x) (loopK i_impl_Policy_ownFault_10 o_impl_Policy_ownFault_10 rec) = l_impl_Policy_ownFault_10 rec x := by kernel_rfl
theorem k_impl_Policy_ownFault_10 : CutOk Try.prog 50 (.loop (nav Try.f141 [1, 1, 1, 0, 1, 0, 0, 1, 1, 0, 0, 1, 1, 1, 0, 0])) c_impl_Policy_ownFault_10 :=
  loop_cut (L := []) hT g_impl_Policy_ownFault t_impl_Policy_ownFault_10 (plain_ok (by kernel_rfl)) _
abbrev c_impl_Policy_ownFault_5 : Cut := ⟨i_impl_Policy_ownFault_5, o_impl_Policy_ownFault_5, fun x => iterF l_impl_Policy_ownFault_5 lots x⟩
theorem t_impl_Policy_ownFault_5 (rec x) : run T G_impl_Policy_ownFault [(10, c_impl_Policy_ownFault_10)] (nav Try.f141 [1, 1, 1, 0, 1, 0, 0]) (mk 50 i_impl_Policy_ownFault_5 x) (loopK i_impl_Policy_ownFault_5 o_impl_Policy_ownFault_5 rec) = l_impl_Policy_ownFault_5 rec x := by kernel_rfl
theorem k_impl_Policy_ownFault_5 : CutOk Try.prog 50 (.loop (nav Try.f141 [1, 1, 1, 0, 1, 0, 0])) c_impl_Policy_ownFault_5 :=
  loop_cut (L := [(10, c_impl_Policy_ownFault_10)]) hT g_impl_Policy_ownFault t_impl_Policy_ownFault_5 (seq_ok (plain_ok (by kernel_rfl)) (seq_ok (plain_ok (by kernel_rfl)) (seq_ok (block_ok (by kernel_rfl) (seq_ok (plain_ok (by kernel_rfl)) (seq_ok (plain_ok (by kernel_rfl)) (seq_ok (plain_ok (by kernel_rfl)) (block_ok (by kernel_rfl) (loop_ok (by kernel_rfl) k_impl_Policy_ownFault_10)))))) (plain_ok (by kernel_rfl))))) _
theorem r_impl_Policy_ownFault (x) : runFn T G_impl_Policy_ownFault [(10, c_impl_Policy_ownFault_10), (5, c_impl_Policy_ownFault_5)] Try.f141 P_impl_Policy_ownFault R_impl_Policy_ownFault x = F_impl_Policy_ownFault x := by kernel_rfl
theorem s_impl_Policy_ownFault : CallsOk Try.prog 141 C_impl_Policy_ownFault :=
  fn_calls (L := [(10, c_impl_Policy_ownFault_10), (5, c_impl_Policy_ownFault_5)]) hT g_impl_Policy_ownFault Try.f141 (by kernel_rfl) (by kernel_rfl) (by kernel_rfl) (seq_ok (plain_ok (by kernel_rfl)) (seq_ok (plain_ok (by kernel_rfl)) (seq_ok (plain_ok (by kernel_rfl)) (seq_ok (seq_ok (plain_ok (by kernel_rfl)) (block_ok (by kernel_rfl) (loop_ok (by kernel_rfl) k_impl_Policy_ownFault_5))) (plain_ok (by kernel_rfl)))))) r_impl_Policy_ownFault
/-! (*impl.Policy).isGuest -/
abbrev P_impl_Policy_isGuest : List PK := [.ptr Y61, .val YI]
abbrev R_impl_Policy_isGuest : List VK := [.s (.dat .bool)]
def F_impl_Policy_isGuest (x : denP P_impl_Policy_isGuest) : Option (denV R_impl_Policy_isGuest × denQ P_impl_Policy_isGuest) :=
  let v1 := ((x.1.1.length : Nat) : Int)
  let v2 := (IntKind.i64.wrap (v1 - (1 : Int)))
  (F_impl_within (x.2.1, (0 : Int), v2, ())).bind fun r3 =>
  some ((r3.1.1, ()), ())
abbrev C_impl_Policy_isGuest : Con := ⟨P_impl_Policy_isGuest, R_impl_Policy_isGuest, F_impl_Policy_isGuest, false⟩
abbrev G_impl_Policy_isGuest : Env := [(63, C_impl_within)]
theorem g_impl_Policy_isGuest : EnvOk Try.prog G_impl_Policy_isGuest := (env_cons s_impl_within env_nil)
theorem r_impl_Policy_isGuest (x) : runFn T G_impl_Policy_isGuest [] Try.f137 P_impl_Policy_isGuest R_impl_Policy_isGuest x = F_impl_Policy_isGuest x := by kernel_rfl
theorem s_impl_Policy_isGuest : CallsOk Try.prog 137 C_impl_Policy_isGuest :=
  fn_calls (L := []) hT g_impl_Policy_isGuest Try.f137 (by kernel_rfl) (by kernel_rfl) (by kernel_rfl) (plain_ok (by kernel_rfl)) r_impl_Policy_isGuest
/-! (*impl.Policy).linkFault -/
abbrev P_impl_Policy_linkFault : List PK := [.ptr Y61, .val YI, .val YI]
abbrev R_impl_Policy_linkFault : List VK := [.s (.dat YI)]
def F_impl_Policy_linkFault (x : denP P_impl_Policy_linkFault) : Option (denV R_impl_Policy_linkFault × denQ P_impl_Policy_linkFault) :=
  (F_impl_Policy_isGuest (x.1, x.2.1, ())).bind fun r1 =>
  if (!r1.1.1) = false then
    (F_impl_Policy_isGuest (x.1, x.2.2.1, ())).bind fun r2 =>
    if (!r2.1.1) then
      some (((4 : Int), ()), ())
    else
      if (x.2.1 == x.2.2.1) then
        some (((1 : Int), ()), ())
      else
        some (((0 : Int), ()), ())
  else
    some (((4 : Int), ()), ())
abbrev C_impl_Policy_linkFault : Con := ⟨P_impl_Policy_linkFault, R_impl_Policy_linkFault, F_impl_Policy_linkFault, false⟩
abbrev G_impl_Policy_linkFault : Env := [(137, C_impl_Policy_isGuest)]
theorem g_impl_Policy_linkFault : EnvOk Try.prog G_impl_Policy_linkFault := (env_cons s_impl_Policy_isGuest env_nil)
theorem r_impl_Policy_linkFault (x) : runFn T G_impl_Policy_linkFault [] Try.f169 P_impl_Policy_linkFault R_impl_Policy_linkFault x = F_impl_Policy_linkFault x := by kernel_rfl
theorem s_impl_Policy_linkFault : CallsOk Try.prog 169 C_impl_Policy_linkFault :=
  fn_calls (L := []) hT g_impl_Policy_linkFault Try.f169 (by kernel_rfl) (by kernel_rfl) (by kernel_rfl) (plain_ok (by kernel_rfl)) r_impl_Policy_linkFault
/-! slices.Index[int64,int64] -/
abbrev P_slices_Index_int64 : List PK := [.val Y22, .val YI]
abbrev R_slices_Index_int64 : List VK := [.s (.dat YI)]
abbrev i_slices_Index_int64_2 : Shp := { slots := [(0, .s (.dat Y22)), (1, .s (.dat YI)), (7, .s (.dat YI)), (8, .s (.dat YI))], boxes := [], rows := [] }
abbrev o_slices_Index_int64_2 : List (Ex × Shp) := [(.exit 0, { slots := [], boxes := [], rows := [] }), (.ret, { slots := [(4, .s (.dat YI))], boxes := [], rows := [] })]
def l_slices_Index_int64_2 (rec : i_slices_Index_int64_2.den → Option (denO o_slices_Index_int64_2)) (u2 : i_slices_Index_int64_2.den) : Option (denO o_slices_Index_int64_2) :=
  if (ltI u2.1.2.2.2.1 u2.1.2.2.1) then
    if 0 ≤ u2.1.2.2.2.1 then
      ((u2.1.1)[(u2.1.2.2.2.1).toNat]?).bind fun y3 =>
      if (u2.1.2.1 == y3) then
        some (.inr (.inl ((u2.1.2.2.2.1, ()), ((), ()))))
      else
        let v4 := (IntKind.i64.wrap (u2.1.2.2.2.1 + (1 : Int)))
        rec ((u2.1.1, (u2.1.2.1, (u2.1.2.2.1, (v4, ())))), ((), ()))
    else none
  else
    some (.inl ((), ((), ())))
def L_slices_Index_int64_2 (x : i_slices_Index_int64_2.den) : Option (denO o_slices_Index_int64_2) := iterF l_slices_Index_int64_2 lots x
def F_slices_Index_int64 (x : denP P_slices_Index_int64) : Option (denV R_slices_Index_int64 × denQ P_slices_Index_int64) :=
  let v1 := ((x.1.length : Nat) : Int)
  (L_slices_Index_int64_2 ((x.1, (x.2.1, (v1, ((0 : Int), ())))), ((), ()))).bind fun z5 =>
  match z5 with
  | .inl x6 =>
    some (((-1 : Int), ()), ())
  | .inr z5_ =>
    match z5_ with
    | .inl x7 =>
      some ((x7.1.1, ()), ())
    | .inr z5__ =>
      none
abbrev C_slices_Index_int64 : Con := ⟨P_slices_Index_int64, R_slices_Index_int64, F_slices_Index_int64, false⟩
abbrev G_slices_Index_int64 : Env := []
theorem g_slices_Index_int64 : EnvOk Try.prog G_slices_Index_int64 := env_nil
abbrev c_slices_Index_int64_2 : Cut := ⟨i_slices_Index_int64_2, o_slices_Index_int64_2, fun x => iterF l_slices_Index_int64_2 lots x⟩
theorem t_slices_Index_int64_2 (rec x) : run T G_slices_Index_int64 [] (nav Try.f156 [1, 0, 1, 0, 0]) (mk 19 i_slices_Index_int64_2 x) (loopK i_slices_Index_int64_2 o_slices_Index_int64_2 rec) = l_slices_Index_int64_2 rec x := by kernel_rfl
theorem k_slices_Index_int64_2 : CutOk Try.prog 19 (.loop (nav Try.f156 [1, 0, 1, 0, 0])) c_slices_Index_int64_2 :=
  loop_cut (L := []) hT g_slices_Index_int64 t_slices_Index_int64_2 (plain_ok (by kernel_rfl)) _
theorem r_slices_Index_int64 (x) : runFn T G_slices_Index_int64 [(2, c_slices_Index_int64_2)] Try.f156 P_slices_Index_int64 R_slices_Index_int64 x = F_slices_Index_int64 x := by kernel_rfl
theorem s_slices_Index_int64 : CallsOk Try.prog 156 C_slices_Index_int64 :=
  fn_calls (L := [(2, c_slices_Index_int64_2)]) hT g_slices_Index_int64 Try.f156 (by kernel_rfl) (by kernel_rfl) (by kernel_rfl) (seq_ok (plain_ok (by kernel_rfl)) (seq_ok (seq_ok (plain_ok (by kernel_rfl)) (block_ok (by kernel_rfl) (loop_ok (by kernel_rfl) k_slices_Index_int64_2))) (plain_ok (by kernel_rfl)))) r_slices_Index_int64
/-! slices.Contains[int64,int64] -/
abbrev P_slices_Contains_int64 : List PK := [.val Y22, .val YI]
abbrev R_slices_Contains_int64 : List VK := [.s (.dat .bool)]
def F_slices_Contains_int64 (x : denP P_slices_Contains_int64) : Option (denV R_slices_Contains_int64 × denQ P_slices_Contains_int64) :=
  (F_slices_Index_int64 (x.1, x.2.1, ())).bind fun r1 =>
  some (((leI (0 : Int) r1.1.1), ()), ())
abbrev C_slices_Contains_int64 : Con := ⟨P_slices_Contains_int64, R_slices_Contains_int64, F_slices_Contains_int64, false⟩
abbrev G_slices_Contains_int64 : Env := [(156, C_slices_Index_int64)]
theorem g_slices_Contains_int64 : EnvOk Try.prog G_slices_Contains_int64 := (env_cons s_slices_Index_int64 env_nil)
theorem r_slices_Contains_int64 (x) : runFn T G_slices_Contains_int64 [] Try.f117 P_slices_Contains_int64 R_slices_Contains_int64 x = F_slices_Contains_int64 x := by kernel_rfl
theorem s_slices_Contains_int64 : CallsOk Try.prog 117 C_slices_Contains_int64 :=
  fn_calls (L := []) hT g_slices_Contains_int64 Try.f117 (by kernel_rfl) (by kernel_rfl) (by kernel_rfl) (plain_ok (by kernel_rfl)) r_slices_Contains_int64
/-! (*impl.Policy).owner.1 -/
abbrev P_impl_Policy_owner_1 : List PK := [.val Y22, .ptr YI]
abbrev R_impl_Policy_owner_1 : List VK := [.s (.dat .bool)]
def F_impl_Policy_owner_1 (x : denP P_impl_Policy_owner_1) : Option (denV R_impl_Policy_owner_1 × denQ P_impl_Policy_owner_1) :=
  (F_slices_Contains_int64 (x.1, x.2.1, ())).bind fun r1 =>
  some ((r1.1.1, ()), ())
abbrev C_impl_Policy_owner_1 : Con := ⟨P_impl_Policy_owner_1, R_impl_Policy_owner_1, F_impl_Policy_owner_1, false⟩
abbrev G_impl_Policy_owner_1 : Env := [(117, C_slices_Contains_int64)]
theorem g_impl_Policy_owner_1 : EnvOk Try.prog G_impl_Policy_owner_1 := (env_cons s_slices_Contains_int64 env_nil)
theorem r_impl_Policy_owner_1 (x) : runFn T G_impl_Policy_owner_1 [] Try.f194 P_impl_Policy_owner_1 R_impl_Policy_owner_1 x = F_impl_Policy_owner_1 x := by kernel_rfl
theorem s_impl_Policy_owner_1 : CallsOk Try.prog 194 C_impl_Policy_owner_1 :=
  fn_calls (L := []) hT g_impl_Policy_owner_1 Try.f194 (by kernel_rfl) (by kernel_rfl) (by kernel_rfl) (plain_ok (by kernel_rfl)) r_impl_Policy_owner_1
/-! slices.IndexFunc[int64,int64] -/
abbrev P_slices_IndexFunc_S_int64_of_impl_Policy_owner_1 : List PK := [.val Y57, .fn 194 [YI]]
abbrev R_slices_IndexFunc_S_int64_of_impl_Policy_owner_1 : List VK := [.s (.dat YI)]
abbrev i_slices_IndexFunc_S_int64_of_impl_Policy_owner_1_2 : Shp := { slots := [(0, .s (.dat Y57)), (1, .s (.fn 194 [YI])), (7, .s (.dat YI)), (8, .s (.dat YI))], boxes := [], rows := [] }
abbrev o_slices_IndexFunc_S_int64_of_impl_Policy_owner_1_2 : List (Ex × Shp) := [(.exit 0, { slots := [], boxes := [], rows := [] }), (.ret, { slots := [(4, .s (.dat YI))], boxes := [], rows := [] })]
def l_slices_IndexFunc_S_int64_of_impl_Policy_owner_1_2 (rec : i_slices_IndexFunc_S_int64_of_impl_Policy_owner_1_2.den → Option (denO o_slices_IndexFunc_S_int64_of_impl_Policy_owner_1_2)) (u2 : i_slices_IndexFunc_S_int64_of_impl_Policy_owner_1_2.den) : Option (denO o_slices_IndexFunc_S_int64_of_impl_Policy_owner_1_2) :=
  if (ltI u2.1.2.2.2.1 u2.1.2.2.1) then
    if 0 ≤ u2.1.2.2.2.1 then
      ((u2.1.1)[(u2.1.2.2.2.1).toNat]?).bind fun y4 =>
      (F_impl_Policy_owner_1 (y4, u2.1.2.1.1, ())).bind fun r5 =>
      if r5.1.1 then
        some (.inr (.inl ((u2.1.2.2.2.1, ()), ((), ()))))
      else
        let v6 := (IntKind.i64.wrap (u2.1.2.2.2.1 + (1 : Int)))
        rec ((u2.1.1, ((u2.1.2.1.1, ()), (u2.1.2.2.1, (v6, ())))), ((), ()))
    else none
  else
    some (.inl ((), ((), ())))
def L_slices_IndexFunc_S_int64_of_impl_Policy_owner_1_2 (x : i_slices_IndexFunc_S_int64_of_impl_Policy_owner_1_2.den) : Option (denO o_slices_IndexFunc_S_int64_of_impl_Policy_owner_1_2) := iterF l_slices_IndexFunc_S_int64_of_impl_Policy_owner_1_2 lots x
def F_slices_IndexFunc_S_int64_of_impl_Policy_owner_1 (x : denP P_slices_IndexFunc_S_int64_of_impl_Policy_owner_1) : Option (denV R_slices_IndexFunc_S_int64_of_impl_Policy_owner_1 × denQ P_slices_IndexFunc_S_int64_of_impl_Policy_owner_1) :=
  let v1 := ((x.1.length : Nat) : Int)
  (L_slices_IndexFunc_S_int64_of_impl_Policy_owner_1_2 ((x.1, ((x.2.1.1, ()), (v1, ((0 : Int), ())))), ((), ()))).bind fun z7 =>
  match z7 with
  | .inl x8 =>
    some (((-1 : Int), ()), ())
  | .inr z7_ =>
    match z7_ with
    | .inl x9 =>
      some ((x9.1.1, ()), ())
    | .inr z7__ =>
      none
abbrev C_slices_IndexFunc_S_int64_of_impl_Policy_owner_1 : Con := ⟨P_slices_IndexFunc_S_int64_of_impl_Policy_owner_1, R_slices_IndexFunc_S_int64_of_impl_Policy_owner_1, F_slices_IndexFunc_S_int64_of_impl_Policy_owner_1, false⟩
abbrev G_slices_IndexFunc_S_int64_of_impl_Policy_owner_1 : Env := [(194, C_impl_Policy_owner_1)]
theorem g_slices_IndexFunc_S_int64_of_impl_Policy_owner_1 : EnvOk Try.prog G_slices_IndexFunc_S_int64_of_impl_Policy_owner_1 := (env_cons s_impl_Policy_owner_1 env_nil)
abbrev c_slices_IndexFunc_S_int64_of_impl_Policy_owner_1_2 : Cut := ⟨i_slices_IndexFunc_S_int64_of_impl_Policy_owner_1_2, o_slices_IndexFunc_S_int64_of_impl_Policy_owner_1_2, fun x => iterF l_slices_IndexFunc_S_int64_of_impl_Policy_owner_1_2 lots x⟩
theorem t_slices_IndexFunc_S_int64_of_impl_Policy_owner_1_2 (rec x) : run T G_slices_IndexFunc_S_int64_of_impl_Policy_owner_1 [] (nav Try.f193 [1, 0, 1, 0, 0]) (mk 19 i_slices_IndexFunc_S_int64_of_impl_Policy_owner_1_2 x) (loopK i_slices_IndexFunc_S_int64_of_impl_Policy_owner_1_2 o_slices_IndexFunc_S_int64_of_impl_Policy_owner_1_2 rec) = l_slices_IndexFunc_S_int64_of_impl_Policy_owner_1_2 rec x := by kernel_rfl
theorem k_slices_IndexFunc_S_int64_of_impl_Policy_owner_1_2 : CutOk Try.prog 19 (.loop (nav Try.f193 [1, 0, 1, 0, 0])) c_slices_IndexFunc_S_int64_of_impl_Policy_owner_1_2 :=
  loop_cut (L := []) hT g_slices_IndexFunc_S_int64_of_impl_Policy_owner_1 t_slices_IndexFunc_S_int64_of_impl_Policy_owner_1_2 (plain_ok (by kernel_rfl)) _
theorem r_slices_IndexFunc_S_int64_of_impl_Policy_owner_1 (x) : runFn T G_slices_IndexFunc_S_int64_of_impl_Policy_owner_1 [(2, c_slices_IndexFunc_S_int64_of_impl_Policy_owner_1_2)] Try.f193 P_slices_IndexFunc_S_int64_of_impl_Policy_owner_1 R_slices_IndexFunc_S_int64_of_impl_Policy_owner_1 x = F_slices_IndexFunc_S_int64_of_impl_Policy_owner_1 x := by kernel_rfl
theorem s_slices_IndexFunc_S_int64_of_impl_Policy_owner_1 : CallsOk Try.prog 193 C_slices_IndexFunc_S_int64_of_impl_Policy_owner_1 :=
  fn_calls (L := [(2, c_slices_IndexFunc_S_int64_of_impl_Policy_owner_1_2)]) hT g_slices_IndexFunc_S_int64_of_impl_Policy_owner_1 Try.f193 (by kernel_rfl) (by kernel_rfl) (by kernel_rfl) (seq_ok (plain_ok (by kernel_rfl)) (seq_ok (seq_ok (plain_ok (by kernel_rfl)) (block_ok (by kernel_rfl) (loop_ok (by kernel_rfl) k_slices_IndexFunc_S_int64_of_impl_Policy_owner_1_2))) (plain_ok (by kernel_rfl)))) r_slices_IndexFunc_S_int64_of_impl_Policy_owner_1
/-! (*impl.Policy).owner -/
abbrev P_impl_Policy_owner : List PK := [.ptr Y61, .val YI]
abbrev R_impl_Policy_owner : List VK := [.s (.dat YI)]
def F_impl_Policy_owner (x : denP P_impl_Policy_owner) : Option (denV R_impl_Policy_owner × denQ P_impl_Policy_owner) :=
  (F_slices_IndexFunc_S_int64_of_impl_Policy_owner_1 (x.1.1, (x.2.1, ()), ())).bind fun r1 =>
  some ((r1.1.1, ()), ())
abbrev C_impl_Policy_owner : Con := ⟨P_impl_Policy_owner, R_impl_Policy_owner, F_impl_Policy_owner, false⟩
abbrev G_impl_Policy_owner : Env := [(193, C_slices_IndexFunc_S_int64_of_impl_Policy_owner_1)]
theorem g_impl_Policy_owner : EnvOk Try.prog G_impl_Policy_owner := (env_cons s_slices_IndexFunc_S_int64_of_impl_Policy_owner_1 env_nil)
theorem r_impl_Policy_owner (x) : runFn T G_impl_Policy_owner [] Try.f170 P_impl_Policy_owner R_impl_Policy_owner x = F_impl_Policy_owner x := by kernel_rfl
theorem s_impl_Policy_owner : CallsOk Try.prog 170 C_impl_Policy_owner :=
  fn_calls (L := []) hT g_impl_Policy_owner Try.f170 (by kernel_rfl) (by kernel_rfl) (by kernel_rfl) (plain_ok (by kernel_rfl)) r_impl_Policy_owner
/-! (impl.Lane).sits -/
abbrev P_impl_Lane_sits : List PK := [.val Y168, .val YI, .val YI]
abbrev R_impl_Lane_sits : List VK := [.s (.dat .bool)]
def F_impl_Lane_sits (x : denP P_impl_Lane_sits) : Option (denV R_impl_Lane_sits × denQ P_impl_Lane_sits) :=
  if (x.1.1 == x.2.1) = true then
    if (x.1.2.2.2.1 == x.2.2.1) = false then
      if (x.1.2.1 == x.2.1) = true then
        some (((x.1.2.2.2.2.1 == x.2.2.1), ()), ())
      else
        some ((false, ()), ())
    else
      some ((true, ()), ())
  else
    if (x.1.2.1 == x.2.1) = true then
      some (((x.1.2.2.2.2.1 == x.2.2.1), ()), ())
    else
      some ((false, ()), ())
abbrev C_impl_Lane_sits : Con := ⟨P_impl_Lane_sits, R_impl_Lane_sits, F_impl_Lane_sits, false⟩
abbrev G_impl_Lane_sits : Env := []
theorem g_impl_Lane_sits : EnvOk Try.prog G_impl_Lane_sits := env_nil
theorem r_impl_Lane_sits (x) : runFn T G_impl_Lane_sits [] Try.f173 P_impl_Lane_sits R_impl_Lane_sits x = F_impl_Lane_sits x := by kernel_rfl
theorem s_impl_Lane_sits : CallsOk Try.prog 173 C_impl_Lane_sits :=
  fn_calls (L := []) hT g_impl_Lane_sits Try.f173 (by kernel_rfl) (by kernel_rfl) (by kernel_rfl) (plain_ok (by kernel_rfl)) r_impl_Lane_sits
/-! (*impl.Policy).laneFault.1 -/
abbrev P_impl_Policy_laneFault_1 : List PK := [.val Y168, .ptr Y168]
abbrev R_impl_Policy_laneFault_1 : List VK := [.s (.dat .bool)]
def F_impl_Policy_laneFault_1 (x : denP P_impl_Policy_laneFault_1) : Option (denV R_impl_Policy_laneFault_1 × denQ P_impl_Policy_laneFault_1) :=
  if (x.1.2.2.1 == x.2.1.2.2.1) = false then
    (F_impl_Lane_sits (x.1, x.2.1.1, x.2.1.2.2.2.1, ())).bind fun r1 =>
    if r1.1.1 = false then
      (F_impl_Lane_sits (x.1, x.2.1.2.1, x.2.1.2.2.2.2.1, ())).bind fun r2 =>
      some ((r2.1.1, ()), ())
    else
      some ((true, ()), ())
  else
    some ((true, ()), ())
abbrev C_impl_Policy_laneFault_1 : Con := ⟨P_impl_Policy_laneFault_1, R_impl_Policy_laneFault_1, F_impl_Policy_laneFault_1, false⟩
abbrev G_impl_Policy_laneFault_1 : Env := [(173, C_impl_Lane_sits)]
theorem g_impl_Policy_laneFault_1 : EnvOk Try.prog G_impl_Policy_laneFault_1 := (env_cons s_impl_Lane_sits env_nil)
theorem r_impl_Policy_laneFault_1 (x) : runFn T G_impl_Policy_laneFault_1 [] Try.f172 P_impl_Policy_laneFault_1 R_impl_Policy_laneFault_1 x = F_impl_Policy_laneFault_1 x := by kernel_rfl
theorem s_impl_Policy_laneFault_1 : CallsOk Try.prog 172 C_impl_Policy_laneFault_1 :=
  fn_calls (L := []) hT g_impl_Policy_laneFault_1 Try.f172 (by kernel_rfl) (by kernel_rfl) (by kernel_rfl) (plain_ok (by kernel_rfl)) r_impl_Policy_laneFault_1
/-! slices.IndexFunc[impl.Lane,impl.Lane] -/
abbrev P_slices_IndexFunc_impl_Lane_of_impl_Policy_laneFault_1 : List PK := [.val Y58, .fn 172 [Y168]]
abbrev R_slices_IndexFunc_impl_Lane_of_impl_Policy_laneFault_1 : List VK := [.s (.dat YI)]
abbrev i_slices_IndexFunc_impl_Lane_of_impl_Policy_laneFault_1_2 : Shp := { slots := [(0, .s (.dat Y58)), (1, .s (.fn 172 [Y168])), (7, .s (.dat YI)), (8, .s (.dat YI))], boxes := [], rows := [] }
abbrev o_slices_IndexFunc_impl_Lane_of_impl_Policy_laneFault_1_2 : List (Ex × Shp) := [(.exit 0, { slots := [], boxes := [], rows := [] }), (.ret, { slots := [(4, .s (.dat YI))], boxes := [], rows := [] })]
def l_slices_IndexFunc_impl_Lane_of_impl_Policy_laneFault_1_2 (rec : i_slices_IndexFunc_impl_Lane_of_impl_Policy_laneFault_1_2.den → Option (denO o_slices_IndexFunc_impl_Lane_of_impl_Policy_laneFault_1_2)) (u2 : i_slices_IndexFunc_impl_Lane_of_impl_Policy_laneFault_1_2.den) : Option (denO o_slices_IndexFunc_impl_Lane_of_impl_Policy_laneFault_1_2) :=
  if (ltI u2.1.2.2.2.1 u2.1.2.2.1) then
    if 0 ≤ u2.1.2.2.2.1 then
      ((u2.1.1)[(u2.1.2.2.2.1).toNat]?).bind fun y4 =>
      (F_impl_Policy_laneFault_1 (y4, u2.1.2.1.1, ())).bind fun r5 =>
      if r5.1.1 then
        some (.inr (.inl ((u2.1.2.2.2.1, ()), ((), ()))))
      else
        let v6 := (IntKind.i64.wrap (u2.1.2.2.2.1 + (1 : Int)))
        rec ((u2.1.1, ((u2.1.2.1.1, ()), (u2.1.2.2.1, (v6, ())))), ((), ()))
    else none
  else
    some (.inl ((), ((), ())))
def L_slices_IndexFunc_impl_Lane_of_impl_Policy_laneFault_1_2 (x : i_slices_IndexFunc_impl_Lane_of_impl_Policy_laneFault_1_2.den) : Option (denO o_slices_IndexFunc_impl_Lane_of_impl_Policy_laneFault_1_2) := iterF l_slices_IndexFunc_impl_Lane_of_impl_Policy_laneFault_1_2 lots x
def F_slices_IndexFunc_impl_Lane_of_impl_Policy_laneFault_1 (x : denP P_slices_IndexFunc_impl_Lane_of_impl_Policy_laneFault_1) : Option (denV R_slices_IndexFunc_impl_Lane_of_impl_Policy_laneFault_1 × denQ P_slices_IndexFunc_impl_Lane_of_impl_Policy_laneFault_1) :=
  let v1 := ((x.1.length : Nat) : Int)
  (L_slices_IndexFunc_impl_Lane_of_impl_Policy_laneFault_1_2 ((x.1, ((x.2.1.1, ()), (v1, ((0 : Int), ())))), ((), ()))).bind fun z7 =>
  match z7 with
  | .inl x8 =>
    some (((-1 : Int), ()), ())
  | .inr z7_ =>
    match z7_ with
    | .inl x9 =>
      some ((x9.1.1, ()), ())
    | .inr z7__ =>
      none
abbrev C_slices_IndexFunc_impl_Lane_of_impl_Policy_laneFault_1 : Con := ⟨P_slices_IndexFunc_impl_Lane_of_impl_Policy_laneFault_1, R_slices_IndexFunc_impl_Lane_of_impl_Policy_laneFault_1, F_slices_IndexFunc_impl_Lane_of_impl_Policy_laneFault_1, false⟩
abbrev G_slices_IndexFunc_impl_Lane_of_impl_Policy_laneFault_1 : Env := [(172, C_impl_Policy_laneFault_1)]
theorem g_slices_IndexFunc_impl_Lane_of_impl_Policy_laneFault_1 : EnvOk Try.prog G_slices_IndexFunc_impl_Lane_of_impl_Policy_laneFault_1 := (env_cons s_impl_Policy_laneFault_1 env_nil)
abbrev c_slices_IndexFunc_impl_Lane_of_impl_Policy_laneFault_1_2 : Cut := ⟨i_slices_IndexFunc_impl_Lane_of_impl_Policy_laneFault_1_2, o_slices_IndexFunc_impl_Lane_of_impl_Policy_laneFault_1_2, fun x => iterF l_slices_IndexFunc_impl_Lane_of_impl_Policy_laneFault_1_2 lots x⟩
theorem t_slices_IndexFunc_impl_Lane_of_impl_Policy_laneFault_1_2 (rec x) : run T G_slices_IndexFunc_impl_Lane_of_impl_Policy_laneFault_1 [] (nav Try.f195 [1, 0, 1, 0, 0]) (mk 19 i_slices_IndexFunc_impl_Lane_of_impl_Policy_laneFault_1_2 x) (loopK i_slices_IndexFunc_impl_Lane_of_impl_Policy_laneFault_1_2 o_slices_IndexFunc_impl_Lane_of_impl_Policy_laneFault_1_2 rec) = l_slices_IndexFunc_impl_Lane_of_impl_Policy_laneFault_1_2 rec x := by kernel_rfl
theorem k_slices_IndexFunc_impl_Lane_of_impl_Policy_laneFault_1_2 : CutOk Try.prog 19 (.loop (nav Try.f195 [1, 0, 1, 0, 0])) c_slices_IndexFunc_impl_Lane_of_impl_Policy_laneFault_1_2 :=
  loop_cut (L := []) hT g_slices_IndexFunc_impl_Lane_of_impl_Policy_laneFault_1 t_slices_IndexFunc_impl_Lane_of_impl_Policy_laneFault_1_2 (plain_ok (by kernel_rfl)) _
theorem r_slices_IndexFunc_impl_Lane_of_impl_Policy_laneFault_1 (x) : runFn T G_slices_IndexFunc_impl_Lane_of_impl_Policy_laneFault_1 [(2, c_slices_IndexFunc_impl_Lane_of_impl_Policy_laneFault_1_2)] Try.f195 P_slices_IndexFunc_impl_Lane_of_impl_Policy_laneFault_1 R_slices_IndexFunc_impl_Lane_of_impl_Policy_laneFault_1 x = F_slices_IndexFunc_impl_Lane_of_impl_Policy_laneFault_1 x := by kernel_rfl
theorem s_slices_IndexFunc_impl_Lane_of_impl_Policy_laneFault_1 : CallsOk Try.prog 195 C_slices_IndexFunc_impl_Lane_of_impl_Policy_laneFault_1 :=
  fn_calls (L := [(2, c_slices_IndexFunc_impl_Lane_of_impl_Policy_laneFault_1_2)]) hT g_slices_IndexFunc_impl_Lane_of_impl_Policy_laneFault_1 Try.f195 (by kernel_rfl) (by kernel_rfl) (by kernel_rfl) (seq_ok (plain_ok (by kernel_rfl)) (seq_ok (seq_ok (plain_ok (by kernel_rfl)) (block_ok (by kernel_rfl) (loop_ok (by kernel_rfl) k_slices_IndexFunc_impl_Lane_of_impl_Policy_laneFault_1_2))) (plain_ok (by kernel_rfl)))) r_slices_IndexFunc_impl_Lane_of_impl_Policy_laneFault_1
/-! slices.ContainsFunc[impl.Lane,impl.Lane] -/
abbrev P_slices_ContainsFunc_impl_Lane_of_impl_Policy_laneFault_1 : List PK := [.val Y58, .fn 172 [Y168]]
abbrev R_slices_ContainsFunc_impl_Lane_of_impl_Policy_laneFault_1 : List VK := [.s (.dat .bool)]
def F_slices_ContainsFunc_impl_Lane_of_impl_Policy_laneFault_1 (x : denP P_slices_ContainsFunc_impl_Lane_of_impl_Policy_laneFault_1) : Option (denV R_slices_ContainsFunc_impl_Lane_of_impl_Policy_laneFault_1 × denQ P_slices_ContainsFunc_impl_Lane_of_impl_Policy_laneFault_1) :=
  (F_slices_IndexFunc_impl_Lane_of_impl_Policy_laneFault_1 (x.1, (x.2.1.1, ()), ())).bind fun r1 =>
  some (((leI (0 : Int) r1.1.1), ()), ())
abbrev C_slices_ContainsFunc_impl_Lane_of_impl_Policy_laneFault_1 : Con := ⟨P_slices_ContainsFunc_impl_Lane_of_impl_Policy_laneFault_1, R_slices_ContainsFunc_impl_Lane_of_impl_Policy_laneFault_1, F_slices_ContainsFunc_impl_Lane_of_impl_Policy_laneFault_1, false⟩
abbrev G_slices_ContainsFunc_impl_Lane_of_impl_Policy_laneFault_1 : Env := [(195, C_slices_IndexFunc_impl_Lane_of_impl_Policy_laneFault_1)]
theorem g_slices_ContainsFunc_impl_Lane_of_impl_Policy_laneFault_1 : EnvOk Try.prog G_slices_ContainsFunc_impl_Lane_of_impl_Policy_laneFault_1 := (env_cons s_slices_IndexFunc_impl_Lane_of_impl_Policy_laneFault_1 env_nil)
theorem r_slices_ContainsFunc_impl_Lane_of_impl_Policy_laneFault_1 (x) : runFn T G_slices_ContainsFunc_impl_Lane_of_impl_Policy_laneFault_1 [] Try.f171 P_slices_ContainsFunc_impl_Lane_of_impl_Policy_laneFault_1 R_slices_ContainsFunc_impl_Lane_of_impl_Policy_laneFault_1 x = F_slices_ContainsFunc_impl_Lane_of_impl_Policy_laneFault_1 x := by kernel_rfl
theorem s_slices_ContainsFunc_impl_Lane_of_impl_Policy_laneFault_1 : CallsOk Try.prog 171 C_slices_ContainsFunc_impl_Lane_of_impl_Policy_laneFault_1 :=
  fn_calls (L := []) hT g_slices_ContainsFunc_impl_Lane_of_impl_Policy_laneFault_1 Try.f171 (by kernel_rfl) (by kernel_rfl) (by kernel_rfl) (plain_ok (by kernel_rfl)) r_slices_ContainsFunc_impl_Lane_of_impl_Policy_laneFault_1
/-! (*impl.Policy).laneFault -/
abbrev P_impl_Policy_laneFault : List PK := [.ptr Y61, .val Y168, .val Y58]
abbrev R_impl_Policy_laneFault : List VK := [.s (.dat YI)]
def F_impl_Policy_laneFault (x : denP P_impl_Policy_laneFault) : Option (denV R_impl_Policy_laneFault × denQ P_impl_Policy_laneFault) :=
  (F_impl_Policy_linkFault (x.1, x.2.1.1, x.2.1.2.1, ())).bind fun r1 =>
  if (r1.1.1 != (0 : Int)) then
    some ((r1.1.1, ()), ())
  else
    (F_impl_within (x.2.1.2.2.1, (0 : Int), (23 : Int), ())).bind fun r2 =>
    if (!r2.1.1) = false then
      (F_impl_within (x.2.1.2.2.2.1, (5 : Int), (6 : Int), ())).bind fun r3 =>
      if (!r3.1.1) = false then
        (F_impl_within (x.2.1.2.2.2.2.1, (5 : Int), (6 : Int), ())).bind fun r4 =>
        if (!r4.1.1) then
          some (((3 : Int), ()), ())
        else
          (F_impl_Policy_owner (x.1, x.2.1.2.2.1, ())).bind fun r5 =>
          if (leI (0 : Int) r5.1.1) = false then
            (F_slices_ContainsFunc_impl_Lane_of_impl_Policy_laneFault_1 (x.2.2.1, (x.2.1, ()), ())).bind fun r6 =>
            if r6.1.1 then
              some (((6 : Int), ()), ())
            else
              some (((0 : Int), ()), ())
          else
            some (((6 : Int), ()), ())
      else
        some (((3 : Int), ()), ())
    else
      some (((3 : Int), ()), ())
abbrev C_impl_Policy_laneFault : Con := ⟨P_impl_Policy_laneFault, R_impl_Policy_laneFault, F_impl_Policy_laneFault, false⟩
abbrev G_impl_Policy_laneFault : Env := [(63, C_impl_within), (169, C_impl_Policy_linkFault), (170, C_impl_Policy_owner), (171, C_slices_ContainsFunc_impl_Lane_of_impl_Policy_laneFault_1)]
theorem g_impl_Policy_laneFault : EnvOk Try.prog G_impl_Policy_laneFault := (env_cons s_impl_within (env_cons s_impl_Policy_linkFault (env_cons s_impl_Policy_owner (env_cons s_slices_ContainsFunc_impl_Lane_of_impl_Policy_laneFault_1 env_nil))))
theorem r_impl_Policy_laneFault (x) : runFn T G_impl_Policy_laneFault [] Try.f142 P_impl_Policy_laneFault R_impl_Policy_laneFault x = F_impl_Policy_laneFault x := by kernel_rfl
theorem s_impl_Policy_laneFault : CallsOk Try.prog 142 C_impl_Policy_laneFault :=
  fn_calls (L := []) hT g_impl_Policy_laneFault Try.f142 (by kernel_rfl) (by kernel_rfl) (by kernel_rfl) (plain_ok (by kernel_rfl)) r_impl_Policy_laneFault
/-! slices.Index[impl.Bell,impl.Bell] -/
abbrev P_slices_Index_impl_Bell : List PK := [.val Y59, .val Y23]
abbrev R_slices_Index_impl_Bell : List VK := [.s (.dat YI)]
abbrev i_slices_Index_impl_Bell_2 : Shp := { slots := [(0, .s (.dat Y59)), (3, .s (.ptr 3 0)), (7, .s (.dat YI)), (8, .s (.dat YI))], boxes := [(3, [.dat YI, .dat YI])], rows := [] }
abbrev o_slices_Index_impl_Bell_2 : List (Ex × Shp) := [(.exit 0, { slots := [], boxes := [], rows := [] }), (.ret, { slots := [(4, .s (.dat YI))], boxes := [], rows := [] })]
def l_slices_Index_impl_Bell_2 (rec : i_slices_Index_impl_Bell_2.den → Option (denO o_slices_Index_impl_Bell_2)) (u2 : i_slices_Index_impl_Bell_2.den) : Option (denO o_slices_Index_impl_Bell_2) :=
  if (ltI u2.1.2.2.2.1 u2.1.2.2.1) then
    if 0 ≤ u2.1.2.2.2.1 then
      ((u2.1.1)[(u2.1.2.2.2.1).toNat]?).bind fun y3 =>
      if ((u2.2.1.1.1 == y3.1) && ((u2.2.1.1.2.1 == y3.2.1) && true)) then
        some (.inr (.inl ((u2.1.2.2.2.1, ()), ((), ()))))
      else
        let v4 := (IntKind.i64.wrap (u2.1.2.2.2.1 + (1 : Int)))
        rec ((u2.1.1, ((), (u2.1.2.2.1, (v4, ())))), (((u2.2.1.1.1, (u2.2.1.1.2.1, ())), ()), ()))
    else none
  else
    some (.inl ((), ((), ())))
def L_slices_Index_impl_Bell_2 (x : i_slices_Index_impl_Bell_2.den) : Option (denO o_slices_Index_impl_Bell_2) := iterF l_slices_Index_impl_Bell_2 lots x
def F_slices_Index_impl_Bell (x : denP P_slices_Index_impl_Bell) : Option (denV R_slices_Index_impl_Bell × denQ P_slices_Index_impl_Bell) :=
  let v1 := ((x.1.length : Nat) : Int)
  (L_slices_Index_impl_Bell_2 ((x.1, ((), (v1, ((0 : Int), ())))), (((x.2.1.1, (x.2.1.2.1, ())), ()), ()))).bind fun z5 =>
  match z5 with
  | .inl x6 =>
    some (((-1 : Int), ()), ())
  | .inr z5_ =>
    match z5_ with
    | .inl x7 =>
      some ((x7.1.1, ()), ())
    | .inr z5__ =>
      none
abbrev C_slices_Index_impl_Bell : Con := ⟨P_slices_Index_impl_Bell, R_slices_Index_impl_Bell, F_slices_Index_impl_Bell, false⟩
abbrev G_slices_Index_impl_Bell : Env := []
theorem g_slices_Index_impl_Bell : EnvOk Try.prog G_slices_Index_impl_Bell := env_nil
abbrev c_slices_Index_impl_Bell_2 : Cut := ⟨i_slices_Index_impl_Bell_2, o_slices_Index_impl_Bell_2, fun x => iterF l_slices_Index_impl_Bell_2 lots x⟩
theorem t_slices_Index_impl_Bell_2 (rec x) : run T G_slices_Index_impl_Bell [] (nav Try.f196 [1, 0, 1, 0, 0]) (mk 19 i_slices_Index_impl_Bell_2 x) (loopK i_slices_Index_impl_Bell_2 o_slices_Index_impl_Bell_2 rec) = l_slices_Index_impl_Bell_2 rec x := by kernel_rfl
theorem k_slices_Index_impl_Bell_2 : CutOk Try.prog 19 (.loop (nav Try.f196 [1, 0, 1, 0, 0])) c_slices_Index_impl_Bell_2 :=
  loop_cut (L := []) hT g_slices_Index_impl_Bell t_slices_Index_impl_Bell_2 (plain_ok (by kernel_rfl)) _
theorem r_slices_Index_impl_Bell (x) : runFn T G_slices_Index_impl_Bell [(2, c_slices_Index_impl_Bell_2)] Try.f196 P_slices_Index_impl_Bell R_slices_Index_impl_Bell x = F_slices_Index_impl_Bell x := by kernel_rfl
theorem s_slices_Index_impl_Bell : CallsOk Try.prog 196 C_slices_Index_impl_Bell :=
  fn_calls (L := [(2, c_slices_Index_impl_Bell_2)]) hT g_slices_Index_impl_Bell Try.f196 (by kernel_rfl) (by kernel_rfl) (by kernel_rfl) (seq_ok (plain_ok (by kernel_rfl)) (seq_ok (seq_ok (plain_ok (by kernel_rfl)) (block_ok (by kernel_rfl) (loop_ok (by kernel_rfl) k_slices_Index_impl_Bell_2))) (plain_ok (by kernel_rfl)))) r_slices_Index_impl_Bell
/-! slices.Contains[impl.Bell,impl.Bell] -/
abbrev P_slices_Contains_impl_Bell : List PK := [.val Y59, .val Y23]
abbrev R_slices_Contains_impl_Bell : List VK := [.s (.dat .bool)]
def F_slices_Contains_impl_Bell (x : denP P_slices_Contains_impl_Bell) : Option (denV R_slices_Contains_impl_Bell × denQ P_slices_Contains_impl_Bell) :=
  (F_slices_Index_impl_Bell (x.1, x.2.1, ())).bind fun r1 =>
  some (((leI (0 : Int) r1.1.1), ()), ())
abbrev C_slices_Contains_impl_Bell : Con := ⟨P_slices_Contains_impl_Bell, R_slices_Contains_impl_Bell, F_slices_Contains_impl_Bell, false⟩
abbrev G_slices_Contains_impl_Bell : Env := [(196, C_slices_Index_impl_Bell)]
theorem g_slices_Contains_impl_Bell : EnvOk Try.prog G_slices_Contains_impl_Bell := (env_cons s_slices_Index_impl_Bell env_nil)
theorem r_slices_Contains_impl_Bell (x) : runFn T G_slices_Contains_impl_Bell [] Try.f174 P_slices_Contains_impl_Bell R_slices_Contains_impl_Bell x = F_slices_Contains_impl_Bell x := by kernel_rfl
theorem s_slices_Contains_impl_Bell : CallsOk Try.prog 174 C_slices_Contains_impl_Bell :=
  fn_calls (L := []) hT g_slices_Contains_impl_Bell Try.f174 (by kernel_rfl) (by kernel_rfl) (by kernel_rfl) (plain_ok (by kernel_rfl)) r_slices_Contains_impl_Bell
/-! (*impl.Policy).bellFault -/
abbrev P_impl_Policy_bellFault : List PK := [.ptr Y61, .val Y23, .val Y59]
abbrev R_impl_Policy_bellFault : List VK := [.s (.dat YI)]
def F_impl_Policy_bellFault (x : denP P_impl_Policy_bellFault) : Option (denV R_impl_Policy_bellFault × denQ P_impl_Policy_bellFault) :=
  (F_impl_Policy_linkFault (x.1, x.2.1.1, x.2.1.2.1, ())).bind fun r1 =>
  if (r1.1.1 != (0 : Int)) then
    some ((r1.1.1, ()), ())
  else
    (F_slices_Contains_impl_Bell (x.2.2.1, x.2.1, ())).bind fun r2 =>
    if r2.1.1 then
      some (((6 : Int), ()), ())
    else
      some (((0 : Int), ()), ())
abbrev C_impl_Policy_bellFault : Con := ⟨P_impl_Policy_bellFault, R_impl_Policy_bellFault, F_impl_Policy_bellFault, false⟩
abbrev G_impl_Policy_bellFault : Env := [(169, C_impl_Policy_linkFault), (174, C_slices_Contains_impl_Bell)]
theorem g_impl_Policy_bellFault : EnvOk Try.prog G_impl_Policy_bellFault := (env_cons s_impl_Policy_linkFault (env_cons s_slices_Contains_impl_Bell env_nil))
theorem r_impl_Policy_bellFault (x) : runFn T G_impl_Policy_bellFault [] Try.f143 P_impl_Policy_bellFault R_impl_Policy_bellFault x = F_impl_Policy_bellFault x := by kernel_rfl
theorem s_impl_Policy_bellFault : CallsOk Try.prog 143 C_impl_Policy_bellFault :=
  fn_calls (L := []) hT g_impl_Policy_bellFault Try.f143 (by kernel_rfl) (by kernel_rfl) (by kernel_rfl) (plain_ok (by kernel_rfl)) r_impl_Policy_bellFault
/-! (*impl.Policy).planFault -/
abbrev P_impl_Policy_planFault : List PK := [.ptr Y61]
abbrev R_impl_Policy_planFault : List VK := [.s (.dat YI)]
abbrev i_impl_Policy_planFault_4 : Shp := { slots := [(0, .s (.pd Y61)), (15, .s (.dat Y59)), (16, .s (.dat YI)), (17, .s (.dat YI))], boxes := [], rows := [] }
abbrev o_impl_Policy_planFault_4 : List (Ex × Shp) := [(.exit 0, { slots := [], boxes := [], rows := [] }), (.ret, { slots := [(2, .s (.dat YI))], boxes := [], rows := [] })]
def l_impl_Policy_planFault_4 (rec : i_impl_Policy_planFault_4.den → Option (denO o_impl_Policy_planFault_4)) (u4 : i_impl_Policy_planFault_4.den) : Option (denO o_impl_Policy_planFault_4) :=
  if (ltI u4.1.2.2.2.1 u4.1.2.2.1) then
    if 0 ≤ u4.1.2.2.2.1 then
      ((u4.1.2.1)[(u4.1.2.2.2.1).toNat]?).bind fun y7 =>
      (F_impl_Policy_isGuest (u4.1.1, y7.1, ())).bind fun r8 =>
      if (!r8.1.1) then
        some (.inr (.inl (((4 : Int), ()), ((), ()))))
      else
        (F_impl_within (y7.2.1, (1 : Int), (50 : Int), ())).bind fun r9 =>
        if (!r9.1.1) then
          some (.inr (.inl (((3 : Int), ()), ((), ()))))
        else
          let v10 := (IntKind.i64.wrap (u4.1.2.2.2.1 + (1 : Int)))
          rec ((u4.1.1, (u4.1.2.1, (u4.1.2.2.1, (v10, ())))), ((), ()))
    else none
  else
    some (.inl ((), ((), ())))
def L_impl_Policy_planFault_4 (x : i_impl_Policy_planFault_4.den) : Option (denO o_impl_Policy_planFault_4) := iterF l_impl_Policy_planFault_4 lots x
def F_impl_Policy_planFault (x : denP P_impl_Policy_planFault) : Option (denV R_impl_Policy_planFault × denQ P_impl_Policy_planFault) :=
  let v1 := ((x.1.2.2.2.1.length : Nat) : Int)
  (F_impl_within (v1, (1 : Int), (8 : Int), ())).bind fun r2 =>
  if (!r2.1.1) then
    some (((2 : Int), ()), ())
  else
    let v3 := ((x.1.2.2.2.1.length : Nat) : Int)
    (L_impl_Policy_planFault_4 ((x.1, (x.1.2.2.2.1, (v3, ((0 : Int), ())))), ((), ()))).bind fun z11 =>
    match z11 with
    | .inl x12 =>
      some (((0 : Int), ()), ())
    | .inr z11_ =>
      match z11_ with
      | .inl x13 =>
        some ((x13.1.1, ()), ())
      | .inr z11__ =>
        none
abbrev C_impl_Policy_planFault : Con := ⟨P_impl_Policy_planFault, R_impl_Policy_planFault, F_impl_Policy_planFault, false⟩
abbrev G_impl_Policy_planFault : Env := [(63, C_impl_within), (137, C_impl_Policy_isGuest)]
theorem g_impl_Policy_planFault : EnvOk Try.prog G_impl_Policy_planFault := (env_cons s_impl_within (env_cons s_impl_Policy_isGuest env_nil))
abbrev c_impl_Policy_planFault_4 : Cut := ⟨i_impl_Policy_planFault_4, o_impl_Policy_planFault_4, fun x => iterF l_impl_Policy_planFault_4 lots x⟩
theorem t_impl_Policy_planFault_4 (rec x) : run T G_impl_Policy_planFault [] (nav Try.f144 [1, 1, 0, 1, 0, 0]) (mk 33 i_impl_Policy_planFault_4 x) (loopK i_impl_Policy_planFault_4 o_impl_Policy_planFault_4 rec) = l_impl_Policy_planFault_4 rec x := by kernel_rfl
theorem k_impl_Policy_planFault_4 : CutOk Try.prog 33 (.loop (nav Try.f144 [1, 1, 0, 1, 0, 0])) c_impl_Policy_planFault_4 :=
  loop_cut (L := []) hT g_impl_Policy_planFault t_impl_Policy_planFault_4 (plain_ok (by kernel_rfl)) _
theorem r_impl_Policy_planFault (x) : runFn T G_impl_Policy_planFault [(4, c_impl_Policy_planFault_4)] Try.f144 P_impl_Policy_planFault R_impl_Policy_planFault x = F_impl_Policy_planFault x := by kernel_rfl
theorem s_impl_Policy_planFault : CallsOk Try.prog 144 C_impl_Policy_planFault :=
  fn_calls (L := [(4, c_impl_Policy_planFault_4)]) hT g_impl_Policy_planFault Try.f144 (by kernel_rfl) (by kernel_rfl) (by kernel_rfl) (seq_ok (plain_ok (by kernel_rfl)) (seq_ok (plain_ok (by kernel_rfl)) (seq_ok (seq_ok (plain_ok (by kernel_rfl)) (block_ok (by kernel_rfl) (loop_ok (by kernel_rfl) k_impl_Policy_planFault_4))) (plain_ok (by kernel_rfl))))) r_impl_Policy_planFault
/-! impl.PolicyFault -/
abbrev P_impl_PolicyFault : List PK := [.val Y61]
abbrev R_impl_PolicyFault : List VK := [.s (.dat YI)]
abbrev i_impl_PolicyFault_14 : Shp := { slots := [(1, .s (.ptr 1 0)), (43, .s (.dat Y59)), (44, .s (.dat YI)), (45, .s (.dat YI))], boxes := [(1, [.dat Y57, .dat Y58, .dat Y59, .dat Y59])], rows := [] }
abbrev o_impl_PolicyFault_14 : List (Ex × Shp) := [(.exit 2, { slots := [(1, .s (.ptr 1 0))], boxes := [(1, [.dat Y57, .dat Y58, .dat Y59, .dat Y59])], rows := [] }), (.ret, { slots := [(2, .s (.dat YI))], boxes := [], rows := [] })]
def l_impl_PolicyFault_14 (rec : i_impl_PolicyFault_14.den → Option (denO o_impl_PolicyFault_14)) (u14 : i_impl_PolicyFault_14.den) : Option (denO o_impl_PolicyFault_14) :=
  if (ltI u14.1.2.2.2.1 u14.1.2.2.1) then
    if 0 ≤ u14.1.2.2.2.1 then
      ((u14.1.2.1)[(u14.1.2.2.2.1).toNat]?).bind fun y16 =>
      if 0 ≤ (0 : Int) ∧ (0 : Int) ≤ u14.1.2.2.2.1 ∧ u14.1.2.2.2.1 ≤ ((u14.2.1.1.2.2.1.length : Nat) : Int) then
        let v17 := ((u14.2.1.1.2.2.1.drop ((0 : Int)).toNat).take ((u14.1.2.2.2.1).toNat - ((0 : Int)).toNat))
        (F_impl_Policy_bellFault ((u14.2.1.1.1, (u14.2.1.1.2.1, (u14.2.1.1.2.2.1, (u14.2.1.1.2.2.2.1, ())))), y16, v17, ())).bind fun r18 =>
        if (r18.1.1 != (0 : Int)) then
          some (.inr (.inl ((r18.1.1, ()), ((), ()))))
        else
          let v19 := (IntKind.i64.wrap (u14.1.2.2.2.1 + (1 : Int)))
          rec (((), (u14.1.2.1, (u14.1.2.2.1, (v19, ())))), (((u14.2.1.1.1, (u14.2.1.1.2.1, (u14.2.1.1.2.2.1, (u14.2.1.1.2.2.2.1, ())))), ()), ()))
      else none
    else none
  else
    some (.inl (((), ()), (((u14.2.1.1.1, (u14.2.1.1.2.1, (u14.2.1.1.2.2.1, (u14.2.1.1.2.2.2.1, ())))), ()), ())))
def L_impl_PolicyFault_14 (x : i_impl_PolicyFault_14.den) : Option (denO o_impl_PolicyFault_14) := iterF l_impl_PolicyFault_14 lots x
abbrev i_impl_PolicyFault_7 : Shp := { slots := [(1, .s (.ptr 1 0)), (25, .s (.dat Y58)), (26, .s (.dat YI)), (27, .s (.dat YI))], boxes := [(1, [.dat Y57, .dat Y58, .dat Y59, .dat Y59])], rows := [] }
abbrev o_impl_PolicyFault_7 : List (Ex × Shp) := [(.exit 0, { slots := [(1, .s (.ptr 1 0))], boxes := [(1, [.dat Y57, .dat Y58, .dat Y59, .dat Y59])], rows := [] }), (.ret, { slots := [(2, .s (.dat YI))], boxes := [], rows := [] })]
def l_impl_PolicyFault_7 (rec : i_impl_PolicyFault_7.den → Option (denO o_impl_PolicyFault_7)) (u7 : i_impl_PolicyFault_7.den) : Option (denO o_impl_PolicyFault_7) :=
  if (ltI u7.1.2.2.2.1 u7.1.2.2.1) then
    if 0 ≤ u7.1.2.2.2.1 then
      ((u7.1.2.1)[(u7.1.2.2.2.1).toNat]?).bind fun y7 =>
      if 0 ≤ (0 : Int) ∧ (0 : Int) ≤ u7.1.2.2.2.1 ∧ u7.1.2.2.2.1 ≤ ((u7.2.1.1.2.1.length : Nat) : Int) then
        let v8 := ((u7.2.1.1.2.1.drop ((0 : Int)).toNat).take ((u7.1.2.2.2.1).toNat - ((0 : Int)).toNat))
        (F_impl_Policy_laneFault ((u7.2.1.1.1, (u7.2.1.1.2.1, (u7.2.1.1.2.2.1, (u7.2.1.1.2.2.2.1, ())))), y7, v8, ())).bind fun r9 =>
        if (r9.1.1 != (0 : Int)) then
          some (.inr (.inl ((r9.1.1, ()), ((), ()))))
        else
          let v10 := (IntKind.i64.wrap (u7.1.2.2.2.1 + (1 : Int)))
          rec (((), (u7.1.2.1, (u7.1.2.2.1, (v10, ())))), (((u7.2.1.1.1, (u7.2.1.1.2.1, (u7.2.1.1.2.2.1, (u7.2.1.1.2.2.2.1, ())))), ()), ()))
      else none
    else none
  else
    some (.inl (((), ()), (((u7.2.1.1.1, (u7.2.1.1.2.1, (u7.2.1.1.2.2.1, (u7.2.1.1.2.2.2.1, ())))), ()), ())))
def L_impl_PolicyFault_7 (x : i_impl_PolicyFault_7.den) : Option (denO o_impl_PolicyFault_7) := iterF l_impl_PolicyFault_7 lots x
def F_impl_PolicyFault (x : denP P_impl_PolicyFault) : Option (denV R_impl_PolicyFault × denQ P_impl_PolicyFault) :=
  (F_impl_Policy_ownFault (x.1, ())).bind fun r1 =>
  if (r1.1.1 != (0 : Int)) then
    some ((r1.1.1, ()), ())
  else
    let v2 := ((x.1.2.1.length : Nat) : Int)
    if (ltI (4 : Int) v2) = false then
      let v3 := ((x.1.2.2.1.length : Nat) : Int)
      if (ltI (4 : Int) v3) then
        some (((2 : Int), ()), ())
      else
        let v4 := ((x.1.2.1.length : Nat) : Int)
        (L_impl_PolicyFault_7 (((), (x.1.2.1, (v4, ((0 : Int), ())))), (((x.1.1, (x.1.2.1, (x.1.2.2.1, (x.1.2.2.2.1, ())))), ()), ()))).bind fun z11 =>
        match z11 with
        | .inl x12 =>
          let v13 := ((x12.2.1.1.2.2.1.length : Nat) : Int)
          (L_impl_PolicyFault_14 (((), (x12.2.1.1.2.2.1, (v13, ((0 : Int), ())))), (((x12.2.1.1.1, (x12.2.1.1.2.1, (x12.2.1.1.2.2.1, (x12.2.1.1.2.2.2.1, ())))), ()), ()))).bind fun z20 =>
          match z20 with
          | .inl x21 =>
            (F_impl_Policy_planFault ((x21.2.1.1.1, (x21.2.1.1.2.1, (x21.2.1.1.2.2.1, (x21.2.1.1.2.2.2.1, ())))), ())).bind fun r22 =>
            some ((r22.1.1, ()), ())
          | .inr z20_ =>
            match z20_ with
            | .inl x23 =>
              some ((x23.1.1, ()), ())
            | .inr z20__ =>
              none
        | .inr z11_ =>
          match z11_ with
          | .inl x24 =>
            some ((x24.1.1, ()), ())
          | .inr z11__ =>
            none
    else
      some (((2 : Int), ()), ())
abbrev C_impl_PolicyFault : Con := ⟨P_impl_PolicyFault, R_impl_PolicyFault, F_impl_PolicyFault, false⟩
abbrev G_impl_PolicyFault : Env := [(141, C_impl_Policy_ownFault), (142, C_impl_Policy_laneFault), (143, C_impl_Policy_bellFault), (144, C_impl_Policy_planFault)]
theorem g_impl_PolicyFault : EnvOk Try.prog G_impl_PolicyFault := (env_cons s_impl_Policy_ownFault (env_cons s_impl_Policy_laneFault (env_cons s_impl_Policy_bellFault (env_cons s_impl_Policy_planFault env_nil))))
abbrev c_impl_PolicyFault_14 : Cut := ⟨i_impl_PolicyFault_14, o_impl_PolicyFault_14, fun x => iterF l_impl_PolicyFault_14 lots x⟩
theorem t_impl_PolicyFault_14 (rec x) : run T G_impl_PolicyFault [] (nav Try.f90 [1, 1, 1, 1, 0, 1, 0, 0]) (mk 61 i_impl_PolicyFault_14 x) (loopK i_impl_PolicyFault_14 o_impl_PolicyFault_14 rec) = l_impl_PolicyFault_14 rec x := by kernel_rfl
theorem k_impl_PolicyFault_14 : CutOk Try.prog 61 (.loop (nav Try.f90 [1, 1, 1, 1, 0, 1, 0, 0])) c_impl_PolicyFault_14 :=
  loop_cut (L := []) hT g_impl_PolicyFault t_impl_PolicyFault_14 (plain_ok (by kernel_rfl)) _
abbrev c_impl_PolicyFault_7 : Cut := ⟨i_impl_PolicyFault_7, o_impl_PolicyFault_7, fun x => iterF l_impl_PolicyFault_7 lots x⟩
theorem t_impl_PolicyFault_7 (rec x) : run T G_impl_PolicyFault [] (nav Try.f90 [1, 1, 1, 0, 1, 0, 0]) (mk 61 i_impl_PolicyFault_7 x) (loopK i_impl_PolicyFault_7 o_impl_PolicyFault_7 rec) = l_impl_PolicyFault_7 rec x := by kernel_rfl
theorem k_impl_PolicyFault_7 : CutOk Try.prog 61 (.loop (nav Try.f90 [1, 1, 1, 0, 1, 0, 0])) c_impl_PolicyFault_7 :=
  loop_cut (L := []) hT g_impl_PolicyFault t_impl_PolicyFault_7 (plain_ok (by kernel_rfl)) _
theorem r_impl_PolicyFault (x) : runFn T G_impl_PolicyFault [(14, c_impl_PolicyFault_14), (7, c_impl_PolicyFault_7)] Try.f90 P_impl_PolicyFault R_impl_PolicyFault x = F_impl_PolicyFault x := by kernel_rfl
theorem s_impl_PolicyFault : CallsOk Try.prog 90 C_impl_PolicyFault :=
  fn_calls (L := [(14, c_impl_PolicyFault_14), (7, c_impl_PolicyFault_7)]) hT g_impl_PolicyFault Try.f90 (by kernel_rfl) (by kernel_rfl) (by kernel_rfl) (seq_ok (plain_ok (by kernel_rfl)) (seq_ok (plain_ok (by kernel_rfl)) (seq_ok (plain_ok (by kernel_rfl)) (seq_ok (seq_ok (plain_ok (by kernel_rfl)) (block_ok (by kernel_rfl) (loop_ok (by kernel_rfl) k_impl_PolicyFault_7))) (seq_ok (seq_ok (plain_ok (by kernel_rfl)) (block_ok (by kernel_rfl) (loop_ok (by kernel_rfl) k_impl_PolicyFault_14))) (plain_ok (by kernel_rfl))))))) r_impl_PolicyFault
/-! impl.guestFault -/
abbrev P_impl_guestFault : List PK := [.val Y61, .val YI]
abbrev R_impl_guestFault : List VK := [.s (.dat YI)]
def F_impl_guestFault (x : denP P_impl_guestFault) : Option (denV R_impl_guestFault × denQ P_impl_guestFault) :=
  (F_impl_PolicyFault (x.1, ())).bind fun r1 =>
  if (r1.1.1 == (0 : Int)) = true then
    (F_impl_Policy_isGuest (x.1, x.2.1, ())).bind fun r2 =>
    if (!r2.1.1) then
      some (((4 : Int), ()), ())
    else
      some ((r1.1.1, ()), ())
  else
    some ((r1.1.1, ()), ())
abbrev C_impl_guestFault : Con := ⟨P_impl_guestFault, R_impl_guestFault, F_impl_guestFault, false⟩
abbrev G_impl_guestFault : Env := [(90, C_impl_PolicyFault), (137, C_impl_Policy_isGuest)]
theorem g_impl_guestFault : EnvOk Try.prog G_impl_guestFault := (env_cons s_impl_PolicyFault (env_cons s_impl_Policy_isGuest env_nil))
theorem r_impl_guestFault (x) : runFn T G_impl_guestFault [] Try.f84 P_impl_guestFault R_impl_guestFault x = F_impl_guestFault x := by kernel_rfl
theorem s_impl_guestFault : CallsOk Try.prog 84 C_impl_guestFault :=
  fn_calls (L := []) hT g_impl_guestFault Try.f84 (by kernel_rfl) (by kernel_rfl) (by kernel_rfl) (plain_ok (by kernel_rfl)) r_impl_guestFault
/-! (*impl.Policy).stepsOf -/
abbrev P_impl_Policy_stepsOf : List PK := [.ptr Y61, .val YI]
abbrev R_impl_Policy_stepsOf : List VK := [.s (.dat YI)]
abbrev i_impl_Policy_stepsOf_3 : Shp := { slots := [(1, .s (.dat YI)), (5, .s (.dat YI)), (11, .s (.dat Y59)), (12, .s (.dat YI)), (13, .s (.dat YI))], boxes := [], rows := [] }
abbrev o_impl_Policy_stepsOf_3 : List (Ex × Shp) := [(.exit 0, { slots := [(5, .s (.dat YI))], boxes := [], rows := [] })]
def l_impl_Policy_stepsOf_3 (rec : i_impl_Policy_stepsOf_3.den → Option (denO o_impl_Policy_stepsOf_3)) (u3 : i_impl_Policy_stepsOf_3.den) : Option (denO o_impl_Policy_stepsOf_3) :=
  if (ltI u3.1.2.2.2.2.1 u3.1.2.2.2.1) then
    if 0 ≤ u3.1.2.2.2.2.1 then
      ((u3.1.2.2.1)[(u3.1.2.2.2.2.1).toNat]?).bind fun y3 =>
      if (ltI u3.1.1 (0 : Int)) = false then
        if (y3.1 == u3.1.1) then
          let v4 := (IntKind.i64.wrap (u3.1.2.1 + y3.2.1))
          let v5 := (IntKind.i64.wrap (u3.1.2.2.2.2.1 + (1 : Int)))
          rec ((u3.1.1, (v4, (u3.1.2.2.1, (u3.1.2.2.2.1, (v5, ()))))), ((), ()))
        else
          let v6 := (IntKind.i64.wrap (u3.1.2.2.2.2.1 + (1 : Int)))
          rec ((u3.1.1, (u3.1.2.1, (u3.1.2.2.1, (u3.1.2.2.2.1, (v6, ()))))), ((), ()))
      else
        let v7 := (IntKind.i64.wrap (u3.1.2.1 + y3.2.1))
        let v8 := (IntKind.i64.wrap (u3.1.2.2.2.2.1 + (1 : Int)))
        rec ((u3.1.1, (v7, (u3.1.2.2.1, (u3.1.2.2.2.1, (v8, ()))))), ((), ()))
    else none
  else
    some (.inl ((u3.1.2.1, ()), ((), ())))
def L_impl_Policy_stepsOf_3 (x : i_impl_Policy_stepsOf_3.den) : Option (denO o_impl_Policy_stepsOf_3) := iterF l_impl_Policy_stepsOf_3 lots x
def F_impl_Policy_stepsOf (x : denP P_impl_Policy_stepsOf) : Option (denV R_impl_Policy_stepsOf × denQ P_impl_Policy_stepsOf) :=
  let v1 := ((x.1.2.2.2.1.length : Nat) : Int)
  (L_impl_Policy_stepsOf_3 ((x.2.1, ((0 : Int), (x.1.2.2.2.1, (v1, ((0 : Int), ()))))), ((), ()))).bind fun z9 =>
  match z9 with
  | .inl x10 =>
    some ((x10.1.1, ()), ())
  | .inr z9_ =>
    none
abbrev C_impl_Policy_stepsOf : Con := ⟨P_impl_Policy_stepsOf, R_impl_Policy_stepsOf, F_impl_Policy_stepsOf, false⟩
abbrev G_impl_Policy_stepsOf : Env := []
theorem g_impl_Policy_stepsOf : EnvOk Try.prog G_impl_Policy_stepsOf := env_nil
abbrev c_impl_Policy_stepsOf_3 : Cut := ⟨i_impl_Policy_stepsOf_3, o_impl_Policy_stepsOf_3, fun x => iterF l_impl_Policy_stepsOf_3 lots x⟩
theorem t_impl_Policy_stepsOf_3 (rec x) : run T G_impl_Policy_stepsOf [] (nav Try.f85 [1, 1, 0, 1, 0, 0]) (mk 31 i_impl_Policy_stepsOf_3 x) (loopK i_impl_Policy_stepsOf_3 o_impl_Policy_stepsOf_3 rec) = l_impl_Policy_stepsOf_3 rec x := by kernel_rfl
theorem k_impl_Policy_stepsOf_3 : CutOk Try.prog 31 (.loop (nav Try.f85 [1, 1, 0, 1, 0, 0])) c_impl_Policy_stepsOf_3 :=
  loop_cut (L := []) hT g_impl_Policy_stepsOf t_impl_Policy_stepsOf_3 (plain_ok (by kernel_rfl)) _
theorem r_impl_Policy_stepsOf (x) : runFn T G_impl_Policy_stepsOf [(3, c_impl_Policy_stepsOf_3)] Try.f85 P_impl_Policy_stepsOf R_impl_Policy_stepsOf x = F_impl_Policy_stepsOf x := by kernel_rfl
theorem s_impl_Policy_stepsOf : CallsOk Try.prog 85 C_impl_Policy_stepsOf :=
  fn_calls (L := [(3, c_impl_Policy_stepsOf_3)]) hT g_impl_Policy_stepsOf Try.f85 (by kernel_rfl) (by kernel_rfl) (by kernel_rfl) (seq_ok (plain_ok (by kernel_rfl)) (seq_ok (plain_ok (by kernel_rfl)) (seq_ok (seq_ok (plain_ok (by kernel_rfl)) (block_ok (by kernel_rfl) (loop_ok (by kernel_rfl) k_impl_Policy_stepsOf_3))) (plain_ok (by kernel_rfl))))) r_impl_Policy_stepsOf
/-! slices.Grow[impl.Slot,impl.Slot] -/
abbrev P_slices_Grow_impl_Slot : List PK := [.val Y59, .val YI]
abbrev R_slices_Grow_impl_Slot : List VK := [.s (.own 68 Y23)]
def F_slices_Grow_impl_Slot : denP P_slices_Grow_impl_Slot → Option (denV R_slices_Grow_impl_Slot × denQ P_slices_Grow_impl_Slot) := growF Y23 16 68
abbrev C_slices_Grow_impl_Slot : Con := ⟨P_slices_Grow_impl_Slot, R_slices_Grow_impl_Slot, F_slices_Grow_impl_Slot, true⟩
theorem w_slices_Grow_impl_Slot (n : Nat) (w : World) (h0 : 0 < n) (hb : n * 16 ≤ 140737488355328) : Calls Try.prog 138 #[.slice none 0 0, .int .i64 n] w fun e w' =>
      e = .returned (.slice (some ⟨w.heap.size, 0, none⟩) 0 (grownCap w n 0 68)) ∧ ∃ c, w' = w.drew.alloc (.cells c 68) ∧ c.size = grownCap w n 0 68 * sz Y23 := by
  have h1 : ¬ ((n : Int) < 0) := by omega
  have h2 : RowKit.wrap64 ((0 : Int) - 0) = 0 := by unfold RowKit.wrap64; omega
  have h3 : RowKit.wrap64 ((n : Int) - 0) = n := by unfold RowKit.wrap64; omega
  have h4 : (n : Int) > 0 := by omega
  obtain ⟨c, hc, hrz⟩ := grow_append hT (st := 60) (e := 68) (it := 3) (r := ⟨Y59, [], 68, 24⟩) (q := ⟨Y23, [(0, 2), (1, 2)], 0, 16⟩) (r3 := ⟨YI, [], 0, 8⟩) (by kernel_rfl) rfl rfl (by kernel_rfl) (by kernel_rfl) rfl w h0 hb (by decide)
  generalize hG : grownCap w n 0 68 = G at hc hrz ⊢
  generalize hS : G * sz Y23 = Sz at hc ⊢
  go_enter Try.func138, Try.ntmps138
  go_wp2_with (at_builtin; refine Lib.wpList_append_run _ rfl _ _ _ _ rfl _ _ rfl rfl _ _ (hrz _) ?_)
  go_ret
  exact ⟨rfl, c, rfl, hc⟩
theorem w_slices_Grow_impl_Slot_none (w : World) : Calls Try.prog 138 #[.slice none 0 0, .int .i64 0] w fun e w' => e = .returned (.slice none 0 0) ∧ w' = w := by
  go_enter Try.func138, Try.ntmps138
  go_wp2
  go_ret
  exact ⟨rfl, rfl⟩
theorem s_slices_Grow_impl_Slot : CallsOk Try.prog 138 C_slices_Grow_impl_Slot := (grow_sound (by decide) (fun n w h0 hb => w_slices_Grow_impl_Slot n w h0 hb) w_slices_Grow_impl_Slot_none).ok (enter_ok Try.func138 (by decide +kernel) (by kernel_rfl))
/-! slices.Concat[impl.Slot,impl.Slot] -/
abbrev P_slices_Concat_impl_Slot : List PK := [.val Y163]
abbrev R_slices_Concat_impl_Slot : List VK := [.s (.own 68 Y23)]
abbrev i_slices_Concat_impl_Slot_11 : Shp := { slots := [(6, .s (.own 68 Y23)), (25, .s (.dat Y163)), (26, .s (.dat YI)), (27, .s (.dat YI))], boxes := [], rows := [] }
abbrev o_slices_Concat_impl_Slot_11 : List (Ex × Shp) := [(.exit 2, { slots := [(6, .s (.own 68 Y23))], boxes := [], rows := [] })]
def l_slices_Concat_impl_Slot_11 (rec : i_slices_Concat_impl_Slot_11.den → Option (denO o_slices_Concat_impl_Slot_11)) (u11 : i_slices_Concat_impl_Slot_11.den) : Option (denO o_slices_Concat_impl_Slot_11) :=
  if (ltI u11.1.2.2.2.1 u11.1.2.2.1) then
    if 0 ≤ u11.1.2.2.2.1 then
      ((u11.1.2.1)[(u11.1.2.2.2.1).toNat]?).bind fun y12 =>
      if (u11.1.1.length + y12.length) * 16 ≤ 140737488355328 then
        let v13 := (u11.1.1 ++ y12)
        let v14 := (IntKind.i64.wrap (u11.1.2.2.2.1 + (1 : Int)))
        rec ((v13, (u11.1.2.1, (u11.1.2.2.1, (v14, ())))), ((), ()))
      else none
    else none
  else
    some (.inl ((u11.1.1, ()), ((), ())))
def L_slices_Concat_impl_Slot_11 (x : i_slices_Concat_impl_Slot_11.den) : Option (denO o_slices_Concat_impl_Slot_11) := iterF l_slices_Concat_impl_Slot_11 lots x
abbrev i_slices_Concat_impl_Slot_3 : Shp := { slots := [(0, .s (.dat Y163)), (3, .s (.dat YI)), (9, .s (.dat Y163)), (10, .s (.dat YI)), (11, .s (.dat YI))], boxes := [], rows := [] }
abbrev o_slices_Concat_impl_Slot_3 : List (Ex × Shp) := [(.exit 0, { slots := [(0, .s (.dat Y163)), (3, .s (.dat YI))], boxes := [], rows := [] })]
def l_slices_Concat_impl_Slot_3 (rec : i_slices_Concat_impl_Slot_3.den → Option (denO o_slices_Concat_impl_Slot_3)) (u3 : i_slices_Concat_impl_Slot_3.den) : Option (denO o_slices_Concat_impl_Slot_3) :=
  if (ltI u3.1.2.2.2.2.1 u3.1.2.2.2.1) then
    if 0 ≤ u3.1.2.2.2.2.1 then
      ((u3.1.2.2.1)[(u3.1.2.2.2.2.1).toNat]?).bind fun y3 =>
      let v4 := ((y3.length : Nat) : Int)
      let v5 := (IntKind.i64.wrap (u3.1.2.1 + v4))
      if (ltI v5 (0 : Int)) then none else
      let v6 := (IntKind.i64.wrap (u3.1.2.2.2.2.1 + (1 : Int)))
      rec ((u3.1.1, (v5, (u3.1.2.2.1, (u3.1.2.2.2.1, (v6, ()))))), ((), ()))
    else none
  else
    some (.inl ((u3.1.1, (u3.1.2.1, ())), ((), ())))
def L_slices_Concat_impl_Slot_3 (x : i_slices_Concat_impl_Slot_3.den) : Option (denO o_slices_Concat_impl_Slot_3) := iterF l_slices_Concat_impl_Slot_3 lots x
def F_slices_Concat_impl_Slot (x : denP P_slices_Concat_impl_Slot) : Option (denV R_slices_Concat_impl_Slot × denQ P_slices_Concat_impl_Slot) :=
  let v1 := ((x.1.length : Nat) : Int)
  (L_slices_Concat_impl_Slot_3 ((x.1, ((0 : Int), (x.1, (v1, ((0 : Int), ()))))), ((), ()))).bind fun z7 =>
  match z7 with
  | .inl x8 =>
    (F_slices_Grow_impl_Slot (([] : List (den Y23)), x8.1.2.1, ())).bind fun r9 =>
    let v10 := ((x8.1.1.length : Nat) : Int)
    (L_slices_Concat_impl_Slot_11 ((r9.1.1, (x8.1.1, (v10, ((0 : Int), ())))), ((), ()))).bind fun z15 =>
    match z15 with
    | .inl x16 =>
      some ((x16.1.1, ()), ())
    | .inr z15_ =>
      none
  | .inr z7_ =>
    none
abbrev C_slices_Concat_impl_Slot : Con := ⟨P_slices_Concat_impl_Slot, R_slices_Concat_impl_Slot, F_slices_Concat_impl_Slot, false⟩
abbrev G_slices_Concat_impl_Slot : Env := [(138, C_slices_Grow_impl_Slot)]
theorem g_slices_Concat_impl_Slot : EnvOk Try.prog G_slices_Concat_impl_Slot := (env_cons s_slices_Grow_impl_Slot env_nil)
abbrev c_slices_Concat_impl_Slot_11 : Cut := ⟨i_slices_Concat_impl_Slot_11, o_slices_Concat_impl_Slot_11, fun x => iterF l_slices_Concat_impl_Slot_11 lots x⟩
theorem t_slices_Concat_impl_Slot_11 (rec x) : run T G_slices_Concat_impl_Slot [] (nav Try.f86 [1, 1, 1, 1, 0, 1, 0, 0]) (mk 36 i_slices_Concat_impl_Slot_11 x) (loopK i_slices_Concat_impl_Slot_11 o_slices_Concat_impl_Slot_11 rec) = l_slices_Concat_impl_Slot_11 rec x := by kernel_rfl
theorem k_slices_Concat_impl_Slot_11 : CutOk Try.prog 36 (.loop (nav Try.f86 [1, 1, 1, 1, 0, 1, 0, 0])) c_slices_Concat_impl_Slot_11 :=
  loop_cut (L := []) hT g_slices_Concat_impl_Slot t_slices_Concat_impl_Slot_11 (plain_ok (by kernel_rfl)) _
abbrev c_slices_Concat_impl_Slot_3 : Cut := ⟨i_slices_Concat_impl_Slot_3, o_slices_Concat_impl_Slot_3, fun x => iterF l_slices_Concat_impl_Slot_3 lots x⟩
theorem t_slices_Concat_impl_Slot_3 (rec x) : run T G_slices_Concat_impl_Slot [] (nav Try.f86 [1, 1, 0, 1, 0, 0]) (mk 36 i_slices_Concat_impl_Slot_3 x) (loopK i_slices_Concat_impl_Slot_3 o_slices_Concat_impl_Slot_3 rec) = l_slices_Concat_impl_Slot_3 rec x := by kernel_rfl
theorem k_slices_Concat_impl_Slot_3 : CutOk Try.prog 36 (.loop (nav Try.f86 [1, 1, 0, 1, 0, 0])) c_slices_Concat_impl_Slot_3 :=
  loop_cut (L := []) hT g_slices_Concat_impl_Slot t_slices_Concat_impl_Slot_3 (plain_ok (by kernel_rfl)) _
theorem r_slices_Concat_impl_Slot (x) : runFn T G_slices_Concat_impl_Slot [(11, c_slices_Concat_impl_Slot_11), (3, c_slices_Concat_impl_Slot_3)] Try.f86 P_slices_Concat_impl_Slot R_slices_Concat_impl_Slot x = F_slices_Concat_impl_Slot x := by kernel_rfl
theorem s_slices_Concat_impl_Slot : CallsOk Try.prog 86 C_slices_Concat_impl_Slot :=
  fn_calls (L := [(11, c_slices_Concat_impl_Slot_11), (3, c_slices_Concat_impl_Slot_3)]) hT g_slices_Concat_impl_Slot Try.f86 (by kernel_rfl) (by kernel_rfl) (by kernel_rfl) (seq_ok (plain_ok (by kernel_rfl)) (seq_ok (plain_ok (by kernel_rfl)) (seq_ok (seq_ok (plain_ok (by kernel_rfl)) (block_ok (by kernel_rfl) (loop_ok (by kernel_rfl) k_slices_Concat_impl_Slot_3))) (seq_ok (plain_ok (by kernel_rfl)) (seq_ok (seq_ok (plain_ok (by kernel_rfl)) (block_ok (by kernel_rfl) (loop_ok (by kernel_rfl) k_slices_Concat_impl_Slot_11))) (plain_ok (by kernel_rfl))))))) r_slices_Concat_impl_Slot
/-! impl.GapOf -/
abbrev P_impl_GapOf : List PK := [.val Y61, .val YI]
abbrev R_impl_GapOf : List VK := [.s (.dat Y23)]
abbrev i_impl_GapOf_8 : Shp := { slots := [(1, .s (.dat YI)), (4, .s (.ptr 4 0)), (6, .s (.dat YI)), (7, .s (.dat YI)), (26, .s (.own 68 Y23)), (27, .s (.dat YI)), (28, .s (.dat YI))], boxes := [(4, [.dat YI, .dat YI])], rows := [] }
abbrev o_impl_GapOf_8 : List (Ex × Shp) := [(.exit 0, { slots := [(4, .s (.ptr 4 0)), (6, .s (.dat YI))], boxes := [(4, [.dat YI, .dat YI])], rows := [] })]
def l_impl_GapOf_8 (rec : i_impl_GapOf_8.den → Option (denO o_impl_GapOf_8)) (u8 : i_impl_GapOf_8.den) : Option (denO o_impl_GapOf_8) :=
  if (ltI u8.1.2.2.2.2.2.2.1 u8.1.2.2.2.2.2.1) then
    if 0 ≤ u8.1.2.2.2.2.2.2.1 ∧ u8.1.2.2.2.2.2.2.1 < ((u8.1.2.2.2.2.1.length : Nat) : Int) then
      ((u8.1.2.2.2.2.1)[(u8.1.2.2.2.2.2.2.1).toNat]?).bind fun y6 =>
      let v7 := (IntKind.i64.wrap (u8.1.2.2.2.1 + y6.2.1))
      if (y6.1 == u8.1.1) then
        let v8 := (if (0 : Int) > u8.1.2.2.1 then (0 : Int) else u8.1.2.2.1)
        let v9 := (IntKind.i64.wrap (u8.1.2.2.2.2.2.2.1 + (1 : Int)))
        rec ((u8.1.1, ((), (v8, ((0 : Int), (u8.1.2.2.2.2.1, (u8.1.2.2.2.2.2.1, (v9, ()))))))), (((u8.2.1.1.1, (u8.2.1.1.2.1, ())), ()), ()))
      else
        let v10 := (if v7 > u8.1.2.2.1 then v7 else u8.1.2.2.1)
        let v11 := (IntKind.i64.wrap (u8.1.2.2.2.2.2.2.1 + (1 : Int)))
        rec ((u8.1.1, ((), (v10, (v7, (u8.1.2.2.2.2.1, (u8.1.2.2.2.2.2.1, (v11, ()))))))), (((u8.2.1.1.1, (u8.2.1.1.2.1, ())), ()), ()))
    else none
  else
    some (.inl (((), (u8.1.2.2.1, ())), (((u8.2.1.1.1, (u8.2.1.1.2.1, ())), ()), ())))
def L_impl_GapOf_8 (x : i_impl_GapOf_8.den) : Option (denO o_impl_GapOf_8) := iterF l_impl_GapOf_8 lots x
def F_impl_GapOf (x : denP P_impl_GapOf) : Option (denV R_impl_GapOf × denQ P_impl_GapOf) :=
  (F_impl_guestFault (x.1, x.2.1, ())).bind fun r1 =>
  if (r1.1.1 != (0 : Int)) then
    some (((r1.1.1, ((0 : Int), ())), ()), ())
  else
    (F_impl_Policy_stepsOf (x.1, x.2.1, ())).bind fun r2 =>
    if (r2.1.1 == (0 : Int)) then
      some ((((10 : Int), ((0 : Int), ())), ()), ())
    else
      (F_slices_Concat_impl_Slot ([x.1.2.2.2.1, x.1.2.2.2.1], ())).bind fun r3 =>
      let v4 := ((r3.1.1.length : Nat) : Int)
      (L_impl_GapOf_8 ((x.2.1, ((), ((0 : Int), ((0 : Int), (r3.1.1, (v4, ((0 : Int), ()))))))), ((((0 : Int), ((0 : Int), ())), ()), ()))).bind fun z12 =>
      match z12 with
      | .inl x13 =>
        some ((((0 : Int), (x13.1.2.1, ())), ()), ())
      | .inr z12_ =>
        none
abbrev C_impl_GapOf : Con := ⟨P_impl_GapOf, R_impl_GapOf, F_impl_GapOf, false⟩
abbrev G_impl_GapOf : Env := [(84, C_impl_guestFault), (85, C_impl_Policy_stepsOf), (86, C_slices_Concat_impl_Slot)]
theorem g_impl_GapOf : EnvOk Try.prog G_impl_GapOf := (env_cons s_impl_guestFault (env_cons s_impl_Policy_stepsOf (env_cons s_slices_Concat_impl_Slot env_nil)))
abbrev c_impl_GapOf_8 : Cut := ⟨i_impl_GapOf_8, o_impl_GapOf_8, fun x => iterF l_impl_GapOf_8 lots x⟩
theorem t_impl_GapOf_8 (rec x) : run T G_impl_GapOf [] (nav Try.f38 [1, 1, 1, 1, 0, 1, 0, 0]) (mk 46 i_impl_GapOf_8 x) (loopK i_impl_GapOf_8 o_impl_GapOf_8 rec) = l_impl_GapOf_8 rec x := by kernel_rfl
theorem k_impl_GapOf_8 : CutOk Try.prog 46 (.loop (nav Try.f38 [1, 1, 1, 1, 0, 1, 0, 0])) c_impl_GapOf_8 :=
  loop_cut (L := []) hT g_impl_GapOf t_impl_GapOf_8 (plain_ok (by kernel_rfl)) _
theorem r_impl_GapOf (x) : runFn T G_impl_GapOf [(8, c_impl_GapOf_8)] Try.f38 P_impl_GapOf R_impl_GapOf x = F_impl_GapOf x := by kernel_rfl
theorem s_impl_GapOf : CallsOk Try.prog 38 C_impl_GapOf :=
  fn_calls (L := [(8, c_impl_GapOf_8)]) hT g_impl_GapOf Try.f38 (by kernel_rfl) (by kernel_rfl) (by kernel_rfl) (seq_ok (plain_ok (by kernel_rfl)) (seq_ok (plain_ok (by kernel_rfl)) (seq_ok (plain_ok (by kernel_rfl)) (seq_ok (plain_ok (by kernel_rfl)) (seq_ok (seq_ok (plain_ok (by kernel_rfl)) (block_ok (by kernel_rfl) (loop_ok (by kernel_rfl) k_impl_GapOf_8))) (plain_ok (by kernel_rfl))))))) r_impl_GapOf
/-! laws.eqInt64SS -/
abbrev P_laws_eqInt64SS : List PK := [.val Y57, .val Y57]
abbrev R_laws_eqInt64SS : List VK := [.s (.dat .bool)]
abbrev i_laws_eqInt64SS_4 : Shp := { slots := [(0, .s (.dat Y57)), (1, .s (.dat Y57)), (5, .s (.dat YI))], boxes := [], rows := [] }
abbrev o_laws_eqInt64SS_4 : List (Ex × Shp) := [(.exit 0, { slots := [], boxes := [], rows := [] }), (.ret, { slots := [(4, .s (.dat .bool))], boxes := [], rows := [] })]
def l_laws_eqInt64SS_4 (rec : i_laws_eqInt64SS_4.den → Option (denO o_laws_eqInt64SS_4)) (u4 : i_laws_eqInt64SS_4.den) : Option (denO o_laws_eqInt64SS_4) :=
  let v6 := ((u4.1.1.length : Nat) : Int)
  if (ltI u4.1.2.2.1 v6) then
    if 0 ≤ u4.1.2.2.1 then
      ((u4.1.1)[(u4.1.2.2.1).toNat]?).bind fun y7 =>
      if 0 ≤ u4.1.2.2.1 then
        ((u4.1.2.1)[(u4.1.2.2.1).toNat]?).bind fun y8 =>
        (F_laws_eqInt64S (y7, y8, ())).bind fun r9 =>
        if (!r9.1.1) then
          some (.inr (.inl ((false, ()), ((), ()))))
        else
          let v10 := (IntKind.i64.wrap (u4.1.2.2.1 + (1 : Int)))
          rec ((u4.1.1, (u4.1.2.1, (v10, ()))), ((), ()))
      else none
    else none
  else
    some (.inl ((), ((), ())))
def L_laws_eqInt64SS_4 (x : i_laws_eqInt64SS_4.den) : Option (denO o_laws_eqInt64SS_4) := iterF l_laws_eqInt64SS_4 lots x
def F_laws_eqInt64SS (x : denP P_laws_eqInt64SS) : Option (denV R_laws_eqInt64SS × denQ P_laws_eqInt64SS) :=
  let v1 := ((x.1.length : Nat) : Int)
  let v2 := ((x.2.1.length : Nat) : Int)
  if (v1 != v2) then
    some ((false, ()), ())
  else
    (L_laws_eqInt64SS_4 ((x.1, (x.2.1, ((0 : Int), ()))), ((), ()))).bind fun z11 =>
    match z11 with
    | .inl x12 =>
      some ((true, ()), ())
    | .inr z11_ =>
      match z11_ with
      | .inl x13 =>
        some ((x13.1.1, ()), ())
      | .inr z11__ =>
        none
abbrev C_laws_eqInt64SS : Con := ⟨P_laws_eqInt64SS, R_laws_eqInt64SS, F_laws_eqInt64SS, false⟩
abbrev G_laws_eqInt64SS : Env := [(18, C_laws_eqInt64S)]
theorem g_laws_eqInt64SS : EnvOk Try.prog G_laws_eqInt64SS := (env_cons s_laws_eqInt64S env_nil)
abbrev c_laws_eqInt64SS_4 : Cut := ⟨i_laws_eqInt64SS_4, o_laws_eqInt64SS_4, fun x => iterF l_laws_eqInt64SS_4 lots x⟩
theorem t_laws_eqInt64SS_4 (rec x) : run T G_laws_eqInt64SS [] (nav Try.f101 [1, 1, 0, 1, 0, 0]) (mk 27 i_laws_eqInt64SS_4 x) (loopK i_laws_eqInt64SS_4 o_laws_eqInt64SS_4 rec) = l_laws_eqInt64SS_4 rec x := by kernel_rfl
theorem k_laws_eqInt64SS_4 : CutOk Try.prog 27 (.loop (nav Try.f101 [1, 1, 0, 1, 0, 0])) c_laws_eqInt64SS_4 :=
  loop_cut (L := []) hT g_laws_eqInt64SS t_laws_eqInt64SS_4 (plain_ok (by kernel_rfl)) _
theorem r_laws_eqInt64SS (x) : runFn T G_laws_eqInt64SS [(4, c_laws_eqInt64SS_4)] Try.f101 P_laws_eqInt64SS R_laws_eqInt64SS x = F_laws_eqInt64SS x := by kernel_rfl
theorem s_laws_eqInt64SS : CallsOk Try.prog 101 C_laws_eqInt64SS :=
  fn_calls (L := [(4, c_laws_eqInt64SS_4)]) hT g_laws_eqInt64SS Try.f101 (by kernel_rfl) (by kernel_rfl) (by kernel_rfl) (seq_ok (plain_ok (by kernel_rfl)) (seq_ok (plain_ok (by kernel_rfl)) (seq_ok (seq_ok (plain_ok (by kernel_rfl)) (block_ok (by kernel_rfl) (loop_ok (by kernel_rfl) k_laws_eqInt64SS_4))) (plain_ok (by kernel_rfl))))) r_laws_eqInt64SS
/-! laws.eqLane -/
abbrev P_laws_eqLane : List PK := [.val Y168, .val Y168]
abbrev R_laws_eqLane : List VK := [.s (.dat .bool)]
def F_laws_eqLane (x : denP P_laws_eqLane) : Option (denV R_laws_eqLane × denQ P_laws_eqLane) :=
  if (x.1.1 != x.2.1.1) then
    some ((false, ()), ())
  else
    if (x.1.2.1 != x.2.1.2.1) then
      some ((false, ()), ())
    else
      if (x.1.2.2.1 != x.2.1.2.2.1) then
        some ((false, ()), ())
      else
        if (x.1.2.2.2.1 != x.2.1.2.2.2.1) then
          some ((false, ()), ())
        else
          if (x.1.2.2.2.2.1 != x.2.1.2.2.2.2.1) then
            some ((false, ()), ())
          else
            some ((true, ()), ())
abbrev C_laws_eqLane : Con := ⟨P_laws_eqLane, R_laws_eqLane, F_laws_eqLane, false⟩
abbrev G_laws_eqLane : Env := []
theorem g_laws_eqLane : EnvOk Try.prog G_laws_eqLane := env_nil
theorem r_laws_eqLane (x) : runFn T G_laws_eqLane [] Try.f148 P_laws_eqLane R_laws_eqLane x = F_laws_eqLane x := by kernel_rfl
theorem s_laws_eqLane : CallsOk Try.prog 148 C_laws_eqLane :=
  fn_calls (L := []) hT g_laws_eqLane Try.f148 (by kernel_rfl) (by kernel_rfl) (by kernel_rfl) (plain_ok (by kernel_rfl)) r_laws_eqLane
/-! laws.eqLaneS -/
abbrev P_laws_eqLaneS : List PK := [.val Y58, .val Y58]
abbrev R_laws_eqLaneS : List VK := [.s (.dat .bool)]
abbrev i_laws_eqLaneS_4 : Shp := { slots := [(0, .s (.dat Y58)), (1, .s (.dat Y58)), (5, .s (.dat YI))], boxes := [], rows := [] }
abbrev o_laws_eqLaneS_4 : List (Ex × Shp) := [(.exit 0, { slots := [], boxes := [], rows := [] }), (.ret, { slots := [(4, .s (.dat .bool))], boxes := [], rows := [] })]
def l_laws_eqLaneS_4 (rec : i_laws_eqLaneS_4.den → Option (denO o_laws_eqLaneS_4)) (u4 : i_laws_eqLaneS_4.den) : Option (denO o_laws_eqLaneS_4) :=
  let v6 := ((u4.1.1.length : Nat) : Int)
  if (ltI u4.1.2.2.1 v6) then
    if 0 ≤ u4.1.2.2.1 then
      ((u4.1.1)[(u4.1.2.2.1).toNat]?).bind fun y7 =>
      if 0 ≤ u4.1.2.2.1 then
        ((u4.1.2.1)[(u4.1.2.2.1).toNat]?).bind fun y8 =>
        (F_laws_eqLane (y7, y8, ())).bind fun r9 =>
        if (!r9.1.1) then
          some (.inr (.inl ((false, ()), ((), ()))))
        else
          let v10 := (IntKind.i64.wrap (u4.1.2.2.1 + (1 : Int)))
          rec ((u4.1.1, (u4.1.2.1, (v10, ()))), ((), ()))
      else none
    else none
  else
    some (.inl ((), ((), ())))
def L_laws_eqLaneS_4 (x : i_laws_eqLaneS_4.den) : Option (denO o_laws_eqLaneS_4) := iterF l_laws_eqLaneS_4 lots x
def F_laws_eqLaneS (x : denP P_laws_eqLaneS) : Option (denV R_laws_eqLaneS × denQ P_laws_eqLaneS) :=
  let v1 := ((x.1.length : Nat) : Int)
  let v2 := ((x.2.1.length : Nat) : Int)
  if (v1 != v2) then
    some ((false, ()), ())
  else
    (L_laws_eqLaneS_4 ((x.1, (x.2.1, ((0 : Int), ()))), ((), ()))).bind fun z11 =>
    match z11 with
    | .inl x12 =>
      some ((true, ()), ())
    | .inr z11_ =>
      match z11_ with
      | .inl x13 =>
        some ((x13.1.1, ()), ())
      | .inr z11__ =>
        none
abbrev C_laws_eqLaneS : Con := ⟨P_laws_eqLaneS, R_laws_eqLaneS, F_laws_eqLaneS, false⟩
abbrev G_laws_eqLaneS : Env := [(148, C_laws_eqLane)]
theorem g_laws_eqLaneS : EnvOk Try.prog G_laws_eqLaneS := (env_cons s_laws_eqLane env_nil)
abbrev c_laws_eqLaneS_4 : Cut := ⟨i_laws_eqLaneS_4, o_laws_eqLaneS_4, fun x => iterF l_laws_eqLaneS_4 lots x⟩
theorem t_laws_eqLaneS_4 (rec x) : run T G_laws_eqLaneS [] (nav Try.f102 [1, 1, 0, 1, 0, 0]) (mk 27 i_laws_eqLaneS_4 x) (loopK i_laws_eqLaneS_4 o_laws_eqLaneS_4 rec) = l_laws_eqLaneS_4 rec x := by kernel_rfl
theorem k_laws_eqLaneS_4 : CutOk Try.prog 27 (.loop (nav Try.f102 [1, 1, 0, 1, 0, 0])) c_laws_eqLaneS_4 :=
  loop_cut (L := []) hT g_laws_eqLaneS t_laws_eqLaneS_4 (plain_ok (by kernel_rfl)) _
theorem r_laws_eqLaneS (x) : runFn T G_laws_eqLaneS [(4, c_laws_eqLaneS_4)] Try.f102 P_laws_eqLaneS R_laws_eqLaneS x = F_laws_eqLaneS x := by kernel_rfl
theorem s_laws_eqLaneS : CallsOk Try.prog 102 C_laws_eqLaneS :=
  fn_calls (L := [(4, c_laws_eqLaneS_4)]) hT g_laws_eqLaneS Try.f102 (by kernel_rfl) (by kernel_rfl) (by kernel_rfl) (seq_ok (plain_ok (by kernel_rfl)) (seq_ok (plain_ok (by kernel_rfl)) (seq_ok (seq_ok (plain_ok (by kernel_rfl)) (block_ok (by kernel_rfl) (loop_ok (by kernel_rfl) k_laws_eqLaneS_4))) (plain_ok (by kernel_rfl))))) r_laws_eqLaneS
/-! laws.eqBell -/
abbrev P_laws_eqBell : List PK := [.val Y23, .val Y23]
abbrev R_laws_eqBell : List VK := [.s (.dat .bool)]
def F_laws_eqBell (x : denP P_laws_eqBell) : Option (denV R_laws_eqBell × denQ P_laws_eqBell) :=
  if (x.1.1 != x.2.1.1) then
    some ((false, ()), ())
  else
    if (x.1.2.1 != x.2.1.2.1) then
      some ((false, ()), ())
    else
      some ((true, ()), ())
abbrev C_laws_eqBell : Con := ⟨P_laws_eqBell, R_laws_eqBell, F_laws_eqBell, false⟩
abbrev G_laws_eqBell : Env := []
theorem g_laws_eqBell : EnvOk Try.prog G_laws_eqBell := env_nil
theorem r_laws_eqBell (x) : runFn T G_laws_eqBell [] Try.f149 P_laws_eqBell R_laws_eqBell x = F_laws_eqBell x := by kernel_rfl
theorem s_laws_eqBell : CallsOk Try.prog 149 C_laws_eqBell :=
  fn_calls (L := []) hT g_laws_eqBell Try.f149 (by kernel_rfl) (by kernel_rfl) (by kernel_rfl) (plain_ok (by kernel_rfl)) r_laws_eqBell
/-! laws.eqBellS -/
abbrev P_laws_eqBellS : List PK := [.val Y59, .val Y59]
abbrev R_laws_eqBellS : List VK := [.s (.dat .bool)]
abbrev i_laws_eqBellS_4 : Shp := { slots := [(0, .s (.dat Y59)), (1, .s (.dat Y59)), (5, .s (.dat YI))], boxes := [], rows := [] }
abbrev o_laws_eqBellS_4 : List (Ex × Shp) := [(.exit 0, { slots := [], boxes := [], rows := [] }), (.ret, { slots := [(4, .s (.dat .bool))], boxes := [], rows := [] })]
def l_laws_eqBellS_4 (rec : i_laws_eqBellS_4.den → Option (denO o_laws_eqBellS_4)) (u4 : i_laws_eqBellS_4.den) : Option (denO o_laws_eqBellS_4) :=
  let v6 := ((u4.1.1.length : Nat) : Int)
  if (ltI u4.1.2.2.1 v6) then
    if 0 ≤ u4.1.2.2.1 then
      ((u4.1.1)[(u4.1.2.2.1).toNat]?).bind fun y7 =>
      if 0 ≤ u4.1.2.2.1 then
        ((u4.1.2.1)[(u4.1.2.2.1).toNat]?).bind fun y8 =>
        (F_laws_eqBell (y7, y8, ())).bind fun r9 =>
        if (!r9.1.1) then
          some (.inr (.inl ((false, ()), ((), ()))))
        else
          let v10 := (IntKind.i64.wrap (u4.1.2.2.1 + (1 : Int)))
          rec ((u4.1.1, (u4.1.2.1, (v10, ()))), ((), ()))
      else none
    else none
  else
    some (.inl ((), ((), ())))
def L_laws_eqBellS_4 (x : i_laws_eqBellS_4.den) : Option (denO o_laws_eqBellS_4) := iterF l_laws_eqBellS_4 lots x
def F_laws_eqBellS (x : denP P_laws_eqBellS) : Option (denV R_laws_eqBellS × denQ P_laws_eqBellS) :=
  let v1 := ((x.1.length : Nat) : Int)
  let v2 := ((x.2.1.length : Nat) : Int)
  if (v1 != v2) then
    some ((false, ()), ())
  else
    (L_laws_eqBellS_4 ((x.1, (x.2.1, ((0 : Int), ()))), ((), ()))).bind fun z11 =>
    match z11 with
    | .inl x12 =>
      some ((true, ()), ())
    | .inr z11_ =>
      match z11_ with
      | .inl x13 =>
        some ((x13.1.1, ()), ())
      | .inr z11__ =>
        none
abbrev C_laws_eqBellS : Con := ⟨P_laws_eqBellS, R_laws_eqBellS, F_laws_eqBellS, false⟩
abbrev G_laws_eqBellS : Env := [(149, C_laws_eqBell)]
theorem g_laws_eqBellS : EnvOk Try.prog G_laws_eqBellS := (env_cons s_laws_eqBell env_nil)
abbrev c_laws_eqBellS_4 : Cut := ⟨i_laws_eqBellS_4, o_laws_eqBellS_4, fun x => iterF l_laws_eqBellS_4 lots x⟩
theorem t_laws_eqBellS_4 (rec x) : run T G_laws_eqBellS [] (nav Try.f103 [1, 1, 0, 1, 0, 0]) (mk 27 i_laws_eqBellS_4 x) (loopK i_laws_eqBellS_4 o_laws_eqBellS_4 rec) = l_laws_eqBellS_4 rec x := by kernel_rfl
theorem k_laws_eqBellS_4 : CutOk Try.prog 27 (.loop (nav Try.f103 [1, 1, 0, 1, 0, 0])) c_laws_eqBellS_4 :=
  loop_cut (L := []) hT g_laws_eqBellS t_laws_eqBellS_4 (plain_ok (by kernel_rfl)) _
theorem r_laws_eqBellS (x) : runFn T G_laws_eqBellS [(4, c_laws_eqBellS_4)] Try.f103 P_laws_eqBellS R_laws_eqBellS x = F_laws_eqBellS x := by kernel_rfl
theorem s_laws_eqBellS : CallsOk Try.prog 103 C_laws_eqBellS :=
  fn_calls (L := [(4, c_laws_eqBellS_4)]) hT g_laws_eqBellS Try.f103 (by kernel_rfl) (by kernel_rfl) (by kernel_rfl) (seq_ok (plain_ok (by kernel_rfl)) (seq_ok (plain_ok (by kernel_rfl)) (seq_ok (seq_ok (plain_ok (by kernel_rfl)) (block_ok (by kernel_rfl) (loop_ok (by kernel_rfl) k_laws_eqBellS_4))) (plain_ok (by kernel_rfl))))) r_laws_eqBellS
/-! laws.eqSlot -/
abbrev P_laws_eqSlot : List PK := [.val Y23, .val Y23]
abbrev R_laws_eqSlot : List VK := [.s (.dat .bool)]
def F_laws_eqSlot (x : denP P_laws_eqSlot) : Option (denV R_laws_eqSlot × denQ P_laws_eqSlot) :=
  if (x.1.1 != x.2.1.1) then
    some ((false, ()), ())
  else
    if (x.1.2.1 != x.2.1.2.1) then
      some ((false, ()), ())
    else
      some ((true, ()), ())
abbrev C_laws_eqSlot : Con := ⟨P_laws_eqSlot, R_laws_eqSlot, F_laws_eqSlot, false⟩
abbrev G_laws_eqSlot : Env := []
theorem g_laws_eqSlot : EnvOk Try.prog G_laws_eqSlot := env_nil
theorem r_laws_eqSlot (x) : runFn T G_laws_eqSlot [] Try.f150 P_laws_eqSlot R_laws_eqSlot x = F_laws_eqSlot x := by kernel_rfl
theorem s_laws_eqSlot : CallsOk Try.prog 150 C_laws_eqSlot :=
  fn_calls (L := []) hT g_laws_eqSlot Try.f150 (by kernel_rfl) (by kernel_rfl) (by kernel_rfl) (plain_ok (by kernel_rfl)) r_laws_eqSlot
/-! laws.eqSlotS -/
abbrev P_laws_eqSlotS : List PK := [.val Y59, .val Y59]
abbrev R_laws_eqSlotS : List VK := [.s (.dat .bool)]
abbrev i_laws_eqSlotS_4 : Shp := { slots := [(0, .s (.dat Y59)), (1, .s (.dat Y59)), (5, .s (.dat YI))], boxes := [], rows := [] }
abbrev o_laws_eqSlotS_4 : List (Ex × Shp) := [(.exit 0, { slots := [], boxes := [], rows := [] }), (.ret, { slots := [(4, .s (.dat .bool))], boxes := [], rows := [] })]
def l_laws_eqSlotS_4 (rec : i_laws_eqSlotS_4.den → Option (denO o_laws_eqSlotS_4)) (u4 : i_laws_eqSlotS_4.den) : Option (denO o_laws_eqSlotS_4) :=
  let v6 := ((u4.1.1.length : Nat) : Int)
  if (ltI u4.1.2.2.1 v6) then
    if 0 ≤ u4.1.2.2.1 then
      ((u4.1.1)[(u4.1.2.2.1).toNat]?).bind fun y7 =>
      if 0 ≤ u4.1.2.2.1 then
        ((u4.1.2.1)[(u4.1.2.2.1).toNat]?).bind fun y8 =>
        (F_laws_eqSlot (y7, y8, ())).bind fun r9 =>
        if (!r9.1.1) then
          some (.inr (.inl ((false, ()), ((), ()))))
        else
          let v10 := (IntKind.i64.wrap (u4.1.2.2.1 + (1 : Int)))
          rec ((u4.1.1, (u4.1.2.1, (v10, ()))), ((), ()))
      else none
    else none
  else
    some (.inl ((), ((), ())))
def L_laws_eqSlotS_4 (x : i_laws_eqSlotS_4.den) : Option (denO o_laws_eqSlotS_4) := iterF l_laws_eqSlotS_4 lots x
def F_laws_eqSlotS (x : denP P_laws_eqSlotS) : Option (denV R_laws_eqSlotS × denQ P_laws_eqSlotS) :=
  let v1 := ((x.1.length : Nat) : Int)
  let v2 := ((x.2.1.length : Nat) : Int)
  if (v1 != v2) then
    some ((false, ()), ())
  else
    (L_laws_eqSlotS_4 ((x.1, (x.2.1, ((0 : Int), ()))), ((), ()))).bind fun z11 =>
    match z11 with
    | .inl x12 =>
      some ((true, ()), ())
    | .inr z11_ =>
      match z11_ with
      | .inl x13 =>
        some ((x13.1.1, ()), ())
      | .inr z11__ =>
        none
abbrev C_laws_eqSlotS : Con := ⟨P_laws_eqSlotS, R_laws_eqSlotS, F_laws_eqSlotS, false⟩
abbrev G_laws_eqSlotS : Env := [(150, C_laws_eqSlot)]
theorem g_laws_eqSlotS : EnvOk Try.prog G_laws_eqSlotS := (env_cons s_laws_eqSlot env_nil)
abbrev c_laws_eqSlotS_4 : Cut := ⟨i_laws_eqSlotS_4, o_laws_eqSlotS_4, fun x => iterF l_laws_eqSlotS_4 lots x⟩
theorem t_laws_eqSlotS_4 (rec x) : run T G_laws_eqSlotS [] (nav Try.f104 [1, 1, 0, 1, 0, 0]) (mk 27 i_laws_eqSlotS_4 x) (loopK i_laws_eqSlotS_4 o_laws_eqSlotS_4 rec) = l_laws_eqSlotS_4 rec x := by kernel_rfl
theorem k_laws_eqSlotS_4 : CutOk Try.prog 27 (.loop (nav Try.f104 [1, 1, 0, 1, 0, 0])) c_laws_eqSlotS_4 :=
  loop_cut (L := []) hT g_laws_eqSlotS t_laws_eqSlotS_4 (plain_ok (by kernel_rfl)) _
theorem r_laws_eqSlotS (x) : runFn T G_laws_eqSlotS [(4, c_laws_eqSlotS_4)] Try.f104 P_laws_eqSlotS R_laws_eqSlotS x = F_laws_eqSlotS x := by kernel_rfl
theorem s_laws_eqSlotS : CallsOk Try.prog 104 C_laws_eqSlotS :=
  fn_calls (L := [(4, c_laws_eqSlotS_4)]) hT g_laws_eqSlotS Try.f104 (by kernel_rfl) (by kernel_rfl) (by kernel_rfl) (seq_ok (plain_ok (by kernel_rfl)) (seq_ok (plain_ok (by kernel_rfl)) (seq_ok (seq_ok (plain_ok (by kernel_rfl)) (block_ok (by kernel_rfl) (loop_ok (by kernel_rfl) k_laws_eqSlotS_4))) (plain_ok (by kernel_rfl))))) r_laws_eqSlotS
/-! laws.eqPolicy -/
abbrev P_laws_eqPolicy : List PK := [.val Y61, .val Y61]
abbrev R_laws_eqPolicy : List VK := [.s (.dat .bool)]
def F_laws_eqPolicy (x : denP P_laws_eqPolicy) : Option (denV R_laws_eqPolicy × denQ P_laws_eqPolicy) :=
  (F_laws_eqInt64SS (x.1.1, x.2.1.1, ())).bind fun r1 =>
  if (!r1.1.1) then
    some ((false, ()), ())
  else
    (F_laws_eqLaneS (x.1.2.1, x.2.1.2.1, ())).bind fun r2 =>
    if (!r2.1.1) then
      some ((false, ()), ())
    else
      (F_laws_eqBellS (x.1.2.2.1, x.2.1.2.2.1, ())).bind fun r3 =>
      if (!r3.1.1) then
        some ((false, ()), ())
      else
        (F_laws_eqSlotS (x.1.2.2.2.1, x.2.1.2.2.2.1, ())).bind fun r4 =>
        if (!r4.1.1) then
          some ((false, ()), ())
        else
          some ((true, ()), ())
abbrev C_laws_eqPolicy : Con := ⟨P_laws_eqPolicy, R_laws_eqPolicy, F_laws_eqPolicy, false⟩
abbrev G_laws_eqPolicy : Env := [(101, C_laws_eqInt64SS), (102, C_laws_eqLaneS), (103, C_laws_eqBellS), (104, C_laws_eqSlotS)]
theorem g_laws_eqPolicy : EnvOk Try.prog G_laws_eqPolicy := (env_cons s_laws_eqInt64SS (env_cons s_laws_eqLaneS (env_cons s_laws_eqBellS (env_cons s_laws_eqSlotS env_nil))))
theorem r_laws_eqPolicy (x) : runFn T G_laws_eqPolicy [] Try.f45 P_laws_eqPolicy R_laws_eqPolicy x = F_laws_eqPolicy x := by kernel_rfl
theorem s_laws_eqPolicy : CallsOk Try.prog 45 C_laws_eqPolicy :=
  fn_calls (L := []) hT g_laws_eqPolicy Try.f45 (by kernel_rfl) (by kernel_rfl) (by kernel_rfl) (plain_ok (by kernel_rfl)) r_laws_eqPolicy
/-! laws.FnExactGapOf -/
abbrev P_laws_FnExactGapOf : List PK := [.val Y61, .val YI]
abbrev R_laws_FnExactGapOf : List VK := [.s (.dat .bool)]
def F_laws_FnExactGapOf (x : denP P_laws_FnExactGapOf) : Option (denV R_laws_FnExactGapOf × denQ P_laws_FnExactGapOf) :=
  (F_laws_szPolicy (x.1, (1048576 : Int), ())).bind fun r1 =>
  if (ltI r1.1.1 (0 : Int)) then
    some ((true, ()), ())
  else
    (F_laws_toPolicy (x.1, ())).bind fun r2 =>
    (F_spec_GapOf ((r2.1.1.1, (r2.1.1.2.1, (r2.1.1.2.2.1, (r2.1.1.2.2.2.1, ())))), x.2.1, ())).bind fun r3 =>
    (F_laws_toPolicy (x.1, ())).bind fun r4 =>
    (F_impl_GapOf ((r4.1.1.1, (r4.1.1.2.1, (r4.1.1.2.2.1, (r4.1.1.2.2.2.1, ())))), x.2.1, ())).bind fun r5 =>
    (F_laws_eqIntResult (r5.1.1, r3.1.1, ())).bind fun r6 =>
    if (!r6.1.1) then
      some ((false, ()), ())
    else
      (F_laws_toPolicy (x.1, ())).bind fun r7 =>
      (F_laws_eqPolicy ((r4.1.1.1, (r4.1.1.2.1, (r4.1.1.2.2.1, (r4.1.1.2.2.2.1, ())))), (r7.1.1.1, (r7.1.1.2.1, (r7.1.1.2.2.1, (r7.1.1.2.2.2.1, ())))), ())).bind fun r8 =>
      if (!r8.1.1) then
        some ((false, ()), ())
      else
        some ((true, ()), ())
abbrev C_laws_FnExactGapOf : Con := ⟨P_laws_FnExactGapOf, R_laws_FnExactGapOf, F_laws_FnExactGapOf, false⟩
abbrev G_laws_FnExactGapOf : Env := [(17, C_laws_eqIntResult), (38, C_impl_GapOf), (39, C_spec_GapOf), (43, C_laws_szPolicy), (44, C_laws_toPolicy), (45, C_laws_eqPolicy)]
theorem g_laws_FnExactGapOf : EnvOk Try.prog G_laws_FnExactGapOf := (env_cons s_laws_eqIntResult (env_cons s_impl_GapOf (env_cons s_spec_GapOf (env_cons s_laws_szPolicy (env_cons s_laws_toPolicy (env_cons s_laws_eqPolicy env_nil))))))
theorem r_laws_FnExactGapOf (x) : runFn T G_laws_FnExactGapOf [] Try.f9 P_laws_FnExactGapOf R_laws_FnExactGapOf x = F_laws_FnExactGapOf x := by kernel_rfl
theorem s_laws_FnExactGapOf : CallsOk Try.prog 9 C_laws_FnExactGapOf :=
  fn_calls (L := []) hT g_laws_FnExactGapOf Try.f9 (by kernel_rfl) (by kernel_rfl) (by kernel_rfl) (plain_ok (by kernel_rfl)) r_laws_FnExactGapOf
theorem q_laws_FnExactGapOf : Sound Try.prog 9 C_laws_FnExactGapOf :=
  fn_snd (L := []) hT g_laws_FnExactGapOf Try.f9 (by kernel_rfl) (by kernel_rfl) (plain_ok (by kernel_rfl)) r_laws_FnExactGapOf
end Go.Proofs.Yteddlkdbefloaaa
