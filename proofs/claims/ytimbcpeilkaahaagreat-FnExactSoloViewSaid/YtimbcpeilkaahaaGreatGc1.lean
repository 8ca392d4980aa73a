/- The functions of the laws, each as a plain function of data (F), and that the program's text does what F says. Printed by a program (wip/tools/gen.py). -/
import Derived.Test.YtimbcpeilkaahaaGreatGb1
namespace Go.Proofs.YtimbcpeilkaahaaGreat
open Go Go.RowKit S Go.Proofs
set_option maxRecDepth 100000
set_option linter.unusedVariables false
/-! laws.szPageS -/
abbrev P_laws_szPageS : List PK := [.val Y24, .val YI]
abbrev R_laws_szPageS : List VK := [.s (.dat YI)]
def F_laws_szPageS (x : denP P_laws_szPageS) : Option (denV R_laws_szPageS × denQ P_laws_szPageS) :=
  let v1 := ((x.1.length : Nat) : Int)
  let v2 := (IntKind.i64.wrap (x.2.1 - v1))
  if (ltI v2 (0 : Int)) then
    some (((-1 : Int), ()), ())
  else
    some ((v2, ()), ())
abbrev C_laws_szPageS : Con := ⟨P_laws_szPageS, R_laws_szPageS, F_laws_szPageS, false⟩
abbrev G_laws_szPageS : Env := []
theorem g_laws_szPageS : EnvOk Tryz.prog G_laws_szPageS := env_nil
theorem r_laws_szPageS (x) : runFn T G_laws_szPageS [] Tryz.f85 P_laws_szPageS R_laws_szPageS x = F_laws_szPageS x := by kernel_rfl
theorem s_laws_szPageS : CallsOk Tryz.prog 85 C_laws_szPageS :=
  fn_calls (L := []) hT g_laws_szPageS Tryz.f85 (by kernel_rfl) (by kernel_rfl) (by kernel_rfl) (plain_ok (by kernel_rfl)) r_laws_szPageS
/-! laws.szSolo -/
abbrev P_laws_szSolo : List PK := [.val Y71, .val YI]
abbrev R_laws_szSolo : List VK := [.s (.dat YI)]
def F_laws_szSolo (x : denP P_laws_szSolo) : Option (denV R_laws_szSolo × denQ P_laws_szSolo) :=
  (F_laws_szHart (x.1.1, x.2.1, ())).bind fun r1 =>
  if (ltI r1.1.1 (0 : Int)) then
    some (((-1 : Int), ()), ())
  else
    (F_laws_szPageS (x.1.2.1, r1.1.1, ())).bind fun r2 =>
    if (ltI r2.1.1 (0 : Int)) then
      some (((-1 : Int), ()), ())
    else
      (F_laws_szInt64S (x.1.2.2.1, r2.1.1, ())).bind fun r3 =>
      if (ltI r3.1.1 (0 : Int)) then
        some (((-1 : Int), ()), ())
      else
        some ((r3.1.1, ()), ())
abbrev C_laws_szSolo : Con := ⟨P_laws_szSolo, R_laws_szSolo, F_laws_szSolo, false⟩
abbrev G_laws_szSolo : Env := [(49, C_laws_szInt64S), (84, C_laws_szHart), (85, C_laws_szPageS)]
theorem g_laws_szSolo : EnvOk Tryz.prog G_laws_szSolo := (env_cons s_laws_szInt64S (env_cons s_laws_szHart (env_cons s_laws_szPageS env_nil)))
theorem r_laws_szSolo (x) : runFn T G_laws_szSolo [] Tryz.f36 P_laws_szSolo R_laws_szSolo x = F_laws_szSolo x := by kernel_rfl
theorem s_laws_szSolo : CallsOk Tryz.prog 36 C_laws_szSolo :=
  fn_calls (L := []) hT g_laws_szSolo Tryz.f36 (by kernel_rfl) (by kernel_rfl) (by kernel_rfl) (plain_ok (by kernel_rfl)) r_laws_szSolo
/-! laws.toPage -/
abbrev P_laws_toPage : List PK := [.val Y99]
abbrev R_laws_toPage : List VK := [.s (.dat Y99)]
def F_laws_toPage (x : denP P_laws_toPage) : Option (denV R_laws_toPage × denQ P_laws_toPage) :=
  some ((x.1, ()), ())
abbrev C_laws_toPage : Con := ⟨P_laws_toPage, R_laws_toPage, F_laws_toPage, false⟩
abbrev G_laws_toPage : Env := []
theorem g_laws_toPage : EnvOk Tryz.prog G_laws_toPage := env_nil
theorem r_laws_toPage (x) : runFn T G_laws_toPage [] Tryz.f139 P_laws_toPage R_laws_toPage x = F_laws_toPage x := by kernel_rfl
theorem s_laws_toPage : CallsOk Tryz.prog 139 C_laws_toPage :=
  fn_calls (L := []) hT g_laws_toPage Tryz.f139 (by kernel_rfl) (by kernel_rfl) (by kernel_rfl) (plain_ok (by kernel_rfl)) r_laws_toPage
/-! laws.toPageS -/
abbrev P_laws_toPageS : List PK := [.val Y24]
abbrev R_laws_toPageS : List VK := [.s (.own 184 Y99)]
abbrev i_laws_toPageS_3 : Shp := { slots := [(0, .s (.dat Y24)), (3, .s (.own 184 Y99)), (4, .s (.dat YI))], boxes := [], rows := [] }
abbrev o_laws_toPageS_3 : List (Ex × Shp) := [(.exit 0, { slots := [(3, .s (.own 184 Y99))], boxes := [], rows := [] })]
def l_laws_toPageS_3 (rec : i_laws_toPageS_3.den → Option (denO o_laws_toPageS_3)) (u3 : i_laws_toPageS_3.den) : Option (denO o_laws_toPageS_3) :=
  let v5 := ((u3.1.1.length : Nat) : Int)
  if (ltI u3.1.2.2.1 v5) then
    if 0 ≤ u3.1.2.2.1 then
      ((u3.1.1)[(u3.1.2.2.1).toNat]?).bind fun y6 =>
      (F_laws_toPage (y6, ())).bind fun r7 =>
      if 0 ≤ u3.1.2.2.1 ∧ u3.1.2.2.1 < ((u3.1.2.1.length : Nat) : Int) then
        ((u3.1.2.1)[(u3.1.2.2.1).toNat]?).bind fun y8 =>
        let v9 := (u3.1.2.1.set (u3.1.2.2.1).toNat r7.1.1)
        let v10 := (IntKind.i64.wrap (u3.1.2.2.1 + (1 : Int)))
        rec ((u3.1.1, (v9, (v10, ()))), ((), ()))
      else none
    else none
  else
    some (.inl ((u3.1.2.1, ()), ((), ())))
def L_laws_toPageS_3 (x : i_laws_toPageS_3.den) : Option (denO o_laws_toPageS_3) := iterF l_laws_toPageS_3 lots x
def F_laws_toPageS (x : denP P_laws_toPageS) : Option (denV R_laws_toPageS × denQ P_laws_toPageS) :=
  let v1 := ((x.1.length : Nat) : Int)
  if v1 = v1 ∧ 0 ≤ v1 ∧ v1 * 16 ≤ 140737488355328 ∧ v1 ≤ 9223372036854775807 then
    (L_laws_toPageS_3 ((x.1, ((List.replicate (v1).toNat (zeroD Y99)), ((0 : Int), ()))), ((), ()))).bind fun z11 =>
    match z11 with
    | .inl x12 =>
      some ((x12.1.1, ()), ())
    | .inr z11_ =>
      none
  else none
abbrev C_laws_toPageS : Con := ⟨P_laws_toPageS, R_laws_toPageS, F_laws_toPageS, false⟩
abbrev G_laws_toPageS : Env := [(139, C_laws_toPage)]
theorem g_laws_toPageS : EnvOk Tryz.prog G_laws_toPageS := (env_cons s_laws_toPage env_nil)
abbrev c_laws_toPageS_3 : Cut := ⟨i_laws_toPageS_3, o_laws_toPageS_3, fun x => iterF l_laws_toPageS_3 lots x⟩
theorem t_laws_toPageS_3 (rec x) : run T G_laws_toPageS [] (nav Tryz.f91 [1, 1, 0, 1, 0, 0]) (mk 23 i_laws_toPageS_3 x) (loopK i_laws_toPageS_3 o_laws_toPageS_3 rec) = l_laws_toPageS_3 rec x := by kernel_rfl
theorem k_laws_toPageS_3 : CutOk Tryz.prog 23 (.loop (nav Tryz.f91 [1, 1, 0, 1, 0, 0])) c_laws_toPageS_3 :=
  loop_cut (L := []) hT g_laws_toPageS t_laws_toPageS_3 (plain_ok (by kernel_rfl)) _
theorem r_laws_toPageS (x) : runFn T G_laws_toPageS [(3, c_laws_toPageS_3)] Tryz.f91 P_laws_toPageS R_laws_toPageS x = F_laws_toPageS x := by kernel_rfl
theorem s_laws_toPageS : CallsOk Tryz.prog 91 C_laws_toPageS :=
  fn_calls (L := [(3, c_laws_toPageS_3)]) hT g_laws_toPageS Tryz.f91 (by kernel_rfl) (by kernel_rfl) (by kernel_rfl) (seq_ok (plain_ok (by kernel_rfl)) (seq_ok (plain_ok (by kernel_rfl)) (seq_ok (seq_ok (plain_ok (by kernel_rfl)) (block_ok (by kernel_rfl) (loop_ok (by kernel_rfl) k_laws_toPageS_3))) (plain_ok (by kernel_rfl))))) r_laws_toPageS
/-! laws.toSolo -/
abbrev P_laws_toSolo : List PK := [.val Y71]
abbrev R_laws_toSolo : List VK := [.g [.own 2 YI, .dat YI, .own 2 YI, .dat .bool, .dat .bool, .dat .bool, .dat YI, .own 2 YI, .own 2 YI, .own 184 Y99, .own 2 YI]]
def F_laws_toSolo (x : denP P_laws_toSolo) : Option (denV R_laws_toSolo × denQ P_laws_toSolo) :=
  (F_laws_toHart (x.1.1, ())).bind fun r1 =>
  (F_laws_toPageS (x.1.2.1, ())).bind fun r2 =>
  (F_laws_toInt64S (x.1.2.2.1, ())).bind fun r3 =>
  some (((r1.1.1.1, (r1.1.1.2.1, (r1.1.1.2.2.1, (r1.1.1.2.2.2.1, (r1.1.1.2.2.2.2.1, (r1.1.1.2.2.2.2.2.1, (r1.1.1.2.2.2.2.2.2.1, (r1.1.1.2.2.2.2.2.2.2.1, (r1.1.1.2.2.2.2.2.2.2.2.1, (r2.1.1, (r3.1.1, ()))))))))))), ()), ())
abbrev C_laws_toSolo : Con := ⟨P_laws_toSolo, R_laws_toSolo, F_laws_toSolo, false⟩
abbrev G_laws_toSolo : Env := [(32, C_laws_toInt64S), (90, C_laws_toHart), (91, C_laws_toPageS)]
theorem g_laws_toSolo : EnvOk Tryz.prog G_laws_toSolo := (env_cons s_laws_toInt64S (env_cons s_laws_toHart (env_cons s_laws_toPageS env_nil)))
theorem r_laws_toSolo (x) : runFn T G_laws_toSolo [] Tryz.f38 P_laws_toSolo R_laws_toSolo x = F_laws_toSolo x := by kernel_rfl
theorem s_laws_toSolo : CallsOk Tryz.prog 38 C_laws_toSolo :=
  fn_calls (L := []) hT g_laws_toSolo Tryz.f38 (by kernel_rfl) (by kernel_rfl) (by kernel_rfl) (plain_ok (by kernel_rfl)) r_laws_toSolo
/-! spec.l6Asked -/
abbrev P_spec_l6Asked : List PK := [.ptr Y26, .val YI]
abbrev R_spec_l6Asked : List VK := [.s (.dat YI)]
def F_spec_l6Asked (x : denP P_spec_l6Asked) : Option (denV R_spec_l6Asked × denQ P_spec_l6Asked) :=
  (F_spec_l6Fault (x.1, ())).bind fun r1 =>
  if (r1.1.1 != (0 : Int)) then
    some ((r1.1.1, ()), ())
  else
    (F_spec_l6Guest (x.1, x.2.1, ())).bind fun r2 =>
    if (!r2.1.1) then
      some (((4 : Int), ()), ())
    else
      some (((0 : Int), ()), ())
abbrev C_spec_l6Asked : Con := ⟨P_spec_l6Asked, R_spec_l6Asked, F_spec_l6Asked, false⟩
abbrev G_spec_l6Asked : Env := [(101, C_spec_l6Guest), (109, C_spec_l6Fault)]
theorem g_spec_l6Asked : EnvOk Tryz.prog G_spec_l6Asked := (env_cons s_spec_l6Guest (env_cons s_spec_l6Fault env_nil))
theorem r_spec_l6Asked (x) : runFn T G_spec_l6Asked [] Tryz.f81 P_spec_l6Asked R_spec_l6Asked x = F_spec_l6Asked x := by kernel_rfl
theorem s_spec_l6Asked : CallsOk Tryz.prog 81 C_spec_l6Asked :=
  fn_calls (L := []) hT g_spec_l6Asked Tryz.f81 (by kernel_rfl) (by kernel_rfl) (by kernel_rfl) (plain_ok (by kernel_rfl)) r_spec_l6Asked
/-! spec.PagesFault -/
abbrev P_spec_PagesFault : List PK := [.val Y24, .val YI]
abbrev R_spec_PagesFault : List VK := [.s (.dat YI)]
abbrev i_spec_PagesFault_6 : Shp := { slots := [(0, .s (.dat Y24)), (1, .s (.dat YI)), (5, .s (.dat YI))], boxes := [], rows := [] }
abbrev o_spec_PagesFault_6 : List (Ex × Shp) := [(.exit 0, { slots := [], boxes := [], rows := [] }), (.ret, { slots := [(4, .s (.dat YI))], boxes := [], rows := [] })]
def l_spec_PagesFault_6 (rec : i_spec_PagesFault_6.den → Option (denO o_spec_PagesFault_6)) (u6 : i_spec_PagesFault_6.den) : Option (denO o_spec_PagesFault_6) :=
  let v9 := ((u6.1.1.length : Nat) : Int)
  if (ltI u6.1.2.2.1 v9) then
    if 0 ≤ u6.1.2.2.1 then
      ((u6.1.1)[(u6.1.2.2.1).toNat]?).bind fun y10 =>
      let v11 := (IntKind.i64.wrap (u6.1.2.1 - (1 : Int)))
      (F_spec_l1In (y10.1, (-1 : Int), v11, ())).bind fun r12 =>
      if (!r12.1.1) = false then
        if 0 ≤ u6.1.2.2.1 then
          ((u6.1.1)[(u6.1.2.2.1).toNat]?).bind fun y13 =>
          (F_spec_l1In (y13.2.1, (0 : Int), (7 : Int), ())).bind fun r14 =>
          if (!r14.1.1) then
            some (.inr (.inl (((3 : Int), ()), ((), ()))))
          else
            if 0 ≤ u6.1.2.2.1 then
              ((u6.1.1)[(u6.1.2.2.1).toNat]?).bind fun y15 =>
              if (ltI y15.1 (0 : Int)) = true then
                if 0 ≤ u6.1.2.2.1 then
                  ((u6.1.1)[(u6.1.2.2.1).toNat]?).bind fun y16 =>
                  if (y16.2.1 != (0 : Int)) then
                    some (.inr (.inl (((1 : Int), ()), ((), ()))))
                  else
                    let v17 := (IntKind.i64.wrap (u6.1.2.2.1 + (1 : Int)))
                    rec ((u6.1.1, (u6.1.2.1, (v17, ()))), ((), ()))
                else none
              else
                let v18 := (IntKind.i64.wrap (u6.1.2.2.1 + (1 : Int)))
                rec ((u6.1.1, (u6.1.2.1, (v18, ()))), ((), ()))
            else none
        else none
      else
        some (.inr (.inl (((3 : Int), ()), ((), ()))))
    else none
  else
    some (.inl ((), ((), ())))
def L_spec_PagesFault_6 (x : i_spec_PagesFault_6.den) : Option (denO o_spec_PagesFault_6) := iterF l_spec_PagesFault_6 lots x
def F_spec_PagesFault (x : denP P_spec_PagesFault) : Option (denV R_spec_PagesFault × denQ P_spec_PagesFault) :=
  (F_spec_l1In (x.2.1, (1 : Int), (24 : Int), ())).bind fun r1 =>
  if (!r1.1.1) then
    some (((3 : Int), ()), ())
  else
    let v2 := ((x.1.length : Nat) : Int)
    if (v2 != (8 : Int)) then
      some (((1 : Int), ()), ())
    else
      (L_spec_PagesFault_6 ((x.1, (x.2.1, ((0 : Int), ()))), ((), ()))).bind fun z19 =>
      match z19 with
      | .inl x20 =>
        some (((0 : Int), ()), ())
      | .inr z19_ =>
        match z19_ with
        | .inl x21 =>
          some ((x21.1.1, ()), ())
        | .inr z19__ =>
          none
abbrev C_spec_PagesFault : Con := ⟨P_spec_PagesFault, R_spec_PagesFault, F_spec_PagesFault, false⟩
abbrev G_spec_PagesFault : Env := [(112, C_spec_l1In)]
theorem g_spec_PagesFault : EnvOk Tryz.prog G_spec_PagesFault := (env_cons s_spec_l1In env_nil)
abbrev c_spec_PagesFault_6 : Cut := ⟨i_spec_PagesFault_6, o_spec_PagesFault_6, fun x => iterF l_spec_PagesFault_6 lots x⟩
theorem t_spec_PagesFault_6 (rec x) : run T G_spec_PagesFault [] (nav Tryz.f137 [1, 1, 1, 0, 1, 0, 0]) (mk 50 i_spec_PagesFault_6 x) (loopK i_spec_PagesFault_6 o_spec_PagesFault_6 rec) = l_spec_PagesFault_6 rec x := by kernel_rfl
theorem k_spec_PagesFault_6 : CutOk Tryz.prog 50 (.loop (nav Tryz.f137 [1, 1, 1, 0, 1, 0, 0])) c_spec_PagesFault_6 :=
  loop_cut (L := []) hT g_spec_PagesFault t_spec_PagesFault_6 (plain_ok (by kernel_rfl)) _
theorem r_spec_PagesFault (x) : runFn T G_spec_PagesFault [(6, c_spec_PagesFault_6)] Tryz.f137 P_spec_PagesFault R_spec_PagesFault x = F_spec_PagesFault x := by kernel_rfl
theorem s_spec_PagesFault : CallsOk Tryz.prog 137 C_spec_PagesFault :=
  fn_calls (L := [(6, c_spec_PagesFault_6)]) hT g_spec_PagesFault Tryz.f137 (by kernel_rfl) (by kernel_rfl) (by kernel_rfl) (seq_ok (plain_ok (by kernel_rfl)) (seq_ok (plain_ok (by kernel_rfl)) (seq_ok (plain_ok (by kernel_rfl)) (seq_ok (seq_ok (plain_ok (by kernel_rfl)) (block_ok (by kernel_rfl) (loop_ok (by kernel_rfl) k_spec_PagesFault_6))) (plain_ok (by kernel_rfl)))))) r_spec_PagesFault
/-! spec.SoloFault -/
abbrev P_spec_SoloFault : List PK := [.val Y71]
abbrev R_spec_SoloFault : List VK := [.s (.dat YI)]
def F_spec_SoloFault (x : denP P_spec_SoloFault) : Option (denV R_spec_SoloFault × denQ P_spec_SoloFault) :=
  (F_spec_l8Fault (x.1.1, ())).bind fun r1 =>
  if (r1.1.1 != (0 : Int)) then
    some ((r1.1.1, ()), ())
  else
    (F_spec_PagesFault (x.1.2.1, (8 : Int), ())).bind fun r2 =>
    if (r2.1.1 != (0 : Int)) then
      some ((r2.1.1, ()), ())
    else
      (F_spec_MemoryFault (x.1.2.2.1, ())).bind fun r3 =>
      if (r3.1.1 != (0 : Int)) = false then
        let v4 := ((x.1.2.2.1.length : Nat) : Int)
        if (v4 != (64 : Int)) then
          some (((1 : Int), ()), ())
        else
          some (((0 : Int), ()), ())
      else
        some (((1 : Int), ()), ())
abbrev C_spec_SoloFault : Con := ⟨P_spec_SoloFault, R_spec_SoloFault, F_spec_SoloFault, false⟩
abbrev G_spec_SoloFault : Env := [(111, C_spec_l8Fault), (137, C_spec_PagesFault), (138, C_spec_MemoryFault)]
theorem g_spec_SoloFault : EnvOk Tryz.prog G_spec_SoloFault := (env_cons s_spec_l8Fault (env_cons s_spec_PagesFault (env_cons s_spec_MemoryFault env_nil)))
theorem r_spec_SoloFault (x) : runFn T G_spec_SoloFault [] Tryz.f86 P_spec_SoloFault R_spec_SoloFault x = F_spec_SoloFault x := by kernel_rfl
theorem s_spec_SoloFault : CallsOk Tryz.prog 86 C_spec_SoloFault :=
  fn_calls (L := []) hT g_spec_SoloFault Tryz.f86 (by kernel_rfl) (by kernel_rfl) (by kernel_rfl) (plain_ok (by kernel_rfl)) r_spec_SoloFault
/-! spec.SoloView -/
abbrev P_spec_SoloView : List PK := [.val Y26, .val Y71, .val YI]
abbrev R_spec_SoloView : List VK := [.g [.dat YI, .own 2 YI, .dat YI, .own 2 YI, .dat .bool, .dat .bool, .dat .bool, .dat YI, .own 2 YI, .own 2 YI, .own 2 YI, .own 2 YI]]
abbrev i_spec_SoloView_9 : Shp := { slots := [(2, .s (.dat YI)), (3, .s (.ptr 3 0)), (4, .s (.ptr 4 0)), (6, .s (.ptr 6 0)), (9, .s (.own 2 YI)), (10, .s (.dat YI))], boxes := [(3, [.dat Y22, .dat Y23, .dat Y24, .dat Y24]), (4, [.dat Y28, .dat YI, .dat Y28, .dat .bool, .dat .bool, .dat .bool, .dat YI, .dat Y28, .dat Y28, .dat Y24, .dat Y28]), (6, [.dat YI, .own 2 YI, .dat YI, .own 2 YI, .dat .bool, .dat .bool, .dat .bool, .dat YI, .own 2 YI, .own 2 YI, .own 2 YI, .own 2 YI])], rows := [] }
abbrev o_spec_SoloView_9 : List (Ex × Shp) := [(.exit 0, { slots := [(2, .s (.dat YI)), (3, .s (.ptr 3 0)), (4, .s (.ptr 4 0)), (6, .s (.ptr 6 0)), (9, .s (.own 2 YI))], boxes := [(3, [.dat Y22, .dat Y23, .dat Y24, .dat Y24]), (4, [.dat Y28, .dat YI, .dat Y28, .dat .bool, .dat .bool, .dat .bool, .dat YI, .dat Y28, .dat Y28, .dat Y24, .dat Y28]), (6, [.dat YI, .own 2 YI, .dat YI, .own 2 YI, .dat .bool, .dat .bool, .dat .bool, .dat YI, .own 2 YI, .own 2 YI, .own 2 YI, .own 2 YI])], rows := [] })]
def l_spec_SoloView_9 (rec : i_spec_SoloView_9.den → Option (denO o_spec_SoloView_9)) (u9 : i_spec_SoloView_9.den) : Option (denO o_spec_SoloView_9) :=
  if 0 ≤ u9.1.1 then
    ((u9.2.1.1.1)[(u9.1.1).toNat]?).bind fun y4 =>
    let v5 := ((y4.length : Nat) : Int)
    if (ltI u9.1.2.2.2.2.2.1 v5) then
      if (u9.1.2.2.2.2.1.length + [u9.1.2.2.2.2.2.1].length) * 8 ≤ 140737488355328 then
        let v6 := (u9.1.2.2.2.2.1 ++ [u9.1.2.2.2.2.2.1])
        let v7 := (IntKind.i64.wrap (u9.1.2.2.2.2.2.1 + (1 : Int)))
        rec ((u9.1.1, ((), ((), ((), (v6, (v7, ())))))), (((u9.2.1.1.1, (u9.2.1.1.2.1, (u9.2.1.1.2.2.1, (u9.2.1.1.2.2.2.1, ())))), ((u9.2.1.2.1.1, (u9.2.1.2.1.2.1, (u9.2.1.2.1.2.2.1, (u9.2.1.2.1.2.2.2.1, (u9.2.1.2.1.2.2.2.2.1, (u9.2.1.2.1.2.2.2.2.2.1, (u9.2.1.2.1.2.2.2.2.2.2.1, (u9.2.1.2.1.2.2.2.2.2.2.2.1, (u9.2.1.2.1.2.2.2.2.2.2.2.2.1, (u9.2.1.2.1.2.2.2.2.2.2.2.2.2.1, (u9.2.1.2.1.2.2.2.2.2.2.2.2.2.2.1, ()))))))))))), ((u9.2.1.2.2.1.1, (u9.2.1.2.2.1.2.1, (u9.2.1.2.2.1.2.2.1, (u9.2.1.2.2.1.2.2.2.1, (u9.2.1.2.2.1.2.2.2.2.1, (u9.2.1.2.2.1.2.2.2.2.2.1, (u9.2.1.2.2.1.2.2.2.2.2.2.1, (u9.2.1.2.2.1.2.2.2.2.2.2.2.1, (u9.2.1.2.2.1.2.2.2.2.2.2.2.2.1, (u9.2.1.2.2.1.2.2.2.2.2.2.2.2.2.1, (u9.2.1.2.2.1.2.2.2.2.2.2.2.2.2.2.1, (u9.2.1.2.2.1.2.2.2.2.2.2.2.2.2.2.2.1, ())))))))))))), ()))), ()))
      else none
    else
      some (.inl ((u9.1.1, ((), ((), ((), (u9.1.2.2.2.2.1, ()))))), (((u9.2.1.1.1, (u9.2.1.1.2.1, (u9.2.1.1.2.2.1, (u9.2.1.1.2.2.2.1, ())))), ((u9.2.1.2.1.1, (u9.2.1.2.1.2.1, (u9.2.1.2.1.2.2.1, (u9.2.1.2.1.2.2.2.1, (u9.2.1.2.1.2.2.2.2.1, (u9.2.1.2.1.2.2.2.2.2.1, (u9.2.1.2.1.2.2.2.2.2.2.1, (u9.2.1.2.1.2.2.2.2.2.2.2.1, (u9.2.1.2.1.2.2.2.2.2.2.2.2.1, (u9.2.1.2.1.2.2.2.2.2.2.2.2.2.1, (u9.2.1.2.1.2.2.2.2.2.2.2.2.2.2.1, ()))))))))))), ((u9.2.1.2.2.1.1, (u9.2.1.2.2.1.2.1, (u9.2.1.2.2.1.2.2.1, (u9.2.1.2.2.1.2.2.2.1, (u9.2.1.2.2.1.2.2.2.2.1, (u9.2.1.2.2.1.2.2.2.2.2.1, (u9.2.1.2.2.1.2.2.2.2.2.2.1, (u9.2.1.2.2.1.2.2.2.2.2.2.2.1, (u9.2.1.2.2.1.2.2.2.2.2.2.2.2.1, (u9.2.1.2.2.1.2.2.2.2.2.2.2.2.2.1, (u9.2.1.2.2.1.2.2.2.2.2.2.2.2.2.2.1, (u9.2.1.2.2.1.2.2.2.2.2.2.2.2.2.2.2.1, ())))))))))))), ()))), ())))
  else none
def L_spec_SoloView_9 (x : i_spec_SoloView_9.den) : Option (denO o_spec_SoloView_9) := iterF l_spec_SoloView_9 lots x
def F_spec_SoloView (x : denP P_spec_SoloView) : Option (denV R_spec_SoloView × denQ P_spec_SoloView) :=
  (F_spec_l6Asked (x.1, x.2.2.1, ())).bind fun r1 =>
  if (r1.1.1 != (0 : Int)) then
    some (((r1.1.1, (([] : List (den YI)), ((0 : Int), (([] : List (den YI)), (false, (false, (false, ((0 : Int), (([] : List (den YI)), (([] : List (den YI)), (([] : List (den YI)), (([] : List (den YI)), ())))))))))))), ()), ())
  else
    (F_spec_SoloFault (x.2.1, ())).bind fun r2 =>
    if (r2.1.1 != (0 : Int)) then
      some (((r2.1.1, (([] : List (den YI)), ((0 : Int), (([] : List (den YI)), (false, (false, (false, ((0 : Int), (([] : List (den YI)), (([] : List (den YI)), (([] : List (den YI)), (([] : List (den YI)), ())))))))))))), ()), ())
    else
      (L_spec_SoloView_9 ((x.2.2.1, ((), ((), ((), (([] : List (den YI)), ((0 : Int), ())))))), (((x.1.1, (x.1.2.1, (x.1.2.2.1, (x.1.2.2.2.1, ())))), ((x.2.1.1.1, (x.2.1.1.2.1, (x.2.1.1.2.2.1, (x.2.1.1.2.2.2.1, (x.2.1.1.2.2.2.2.1, (x.2.1.1.2.2.2.2.2.1, (x.2.1.1.2.2.2.2.2.2.1, (x.2.1.1.2.2.2.2.2.2.2.1, (x.2.1.1.2.2.2.2.2.2.2.2.1, (x.2.1.2.1, (x.2.1.2.2.1, ()))))))))))), (((0 : Int), (([] : List (den YI)), ((0 : Int), (([] : List (den YI)), (false, (false, (false, ((0 : Int), (([] : List (den YI)), (([] : List (den YI)), (([] : List (den YI)), (([] : List (den YI)), ())))))))))))), ()))), ()))).bind fun z8 =>
      match z8 with
      | .inl x9 =>
        (F_spec_l8Copy ((x9.2.1.2.1.1, (x9.2.1.2.1.2.1, (x9.2.1.2.1.2.2.1, (x9.2.1.2.1.2.2.2.1, (x9.2.1.2.1.2.2.2.2.1, (x9.2.1.2.1.2.2.2.2.2.1, (x9.2.1.2.1.2.2.2.2.2.2.1, (x9.2.1.2.1.2.2.2.2.2.2.2.1, (x9.2.1.2.1.2.2.2.2.2.2.2.2.1, ()))))))))), ())).bind fun r10 =>
        (F_spec_l7Words (x9.2.1.2.1.2.2.2.2.2.2.2.2.2.2.1, x9.1.2.2.2.2.1, ())).bind fun r11 =>
        (F_spec_l13Gives ((x9.2.1.1.1, (x9.2.1.1.2.1, (x9.2.1.1.2.2.1, (x9.2.1.1.2.2.2.1, ())))), x9.1.1, false, ())).bind fun r12 =>
        (F_spec_l7Words (x9.2.1.2.1.2.2.2.2.2.2.2.2.2.2.1, r12.1.1, ())).bind fun r13 =>
        some ((((0 : Int), (r10.1.1.1, (r10.1.1.2.1, (r10.1.1.2.2.1, (r10.1.1.2.2.2.1, (r10.1.1.2.2.2.2.1, (r10.1.1.2.2.2.2.2.1, (r10.1.1.2.2.2.2.2.2.1, (r10.1.1.2.2.2.2.2.2.2.1, (r10.1.1.2.2.2.2.2.2.2.2.1, (r11.1.1, (r13.1.1, ())))))))))))), ()), ())
      | .inr z8_ =>
        none
abbrev C_spec_SoloView : Con := ⟨P_spec_SoloView, R_spec_SoloView, F_spec_SoloView, false⟩
abbrev G_spec_SoloView : Env := [(81, C_spec_l6Asked), (86, C_spec_SoloFault), (87, C_spec_l8Copy), (88, C_spec_l7Words), (89, C_spec_l13Gives)]
theorem g_spec_SoloView : EnvOk Tryz.prog G_spec_SoloView := (env_cons s_spec_l6Asked (env_cons s_spec_SoloFault (env_cons s_spec_l8Copy (env_cons s_spec_l7Words (env_cons s_spec_l13Gives env_nil)))))
abbrev c_spec_SoloView_9 : Cut := ⟨i_spec_SoloView_9, o_spec_SoloView_9, fun x => iterF l_spec_SoloView_9 lots x⟩
theorem t_spec_SoloView_9 (rec x) : run T G_spec_SoloView [] (nav Tryz.f37 [1, 1, 1, 1, 0, 1, 0, 0]) (mk 52 i_spec_SoloView_9 x) (loopK i_spec_SoloView_9 o_spec_SoloView_9 rec) = l_spec_SoloView_9 rec x := by kernel_rfl
theorem k_spec_SoloView_9 : CutOk Tryz.prog 52 (.loop (nav Tryz.f37 [1, 1, 1, 1, 0, 1, 0, 0])) c_spec_SoloView_9 :=
  loop_cut (L := []) hT g_spec_SoloView t_spec_SoloView_9 (plain_ok (by kernel_rfl)) _
theorem r_spec_SoloView (x) : runFn T G_spec_SoloView [(9, c_spec_SoloView_9)] Tryz.f37 P_spec_SoloView R_spec_SoloView x = F_spec_SoloView x := by kernel_rfl
theorem s_spec_SoloView : CallsOk Tryz.prog 37 C_spec_SoloView :=
  fn_calls (L := [(9, c_spec_SoloView_9)]) hT g_spec_SoloView Tryz.f37 (by kernel_rfl) (by kernel_rfl) (by kernel_rfl) (seq_ok (plain_ok (by kernel_rfl)) (seq_ok (plain_ok (by kernel_rfl)) (seq_ok (plain_ok (by kernel_rfl)) (seq_ok (plain_ok (by kernel_rfl)) (seq_ok (seq_ok (plain_ok (by kernel_rfl)) (block_ok (by kernel_rfl) (loop_ok (by kernel_rfl) k_spec_SoloView_9))) (plain_ok (by kernel_rfl))))))) r_spec_SoloView
/-! impl.guestFault -/
abbrev P_impl_guestFault : List PK := [.val Y26, .val YI]
abbrev R_impl_guestFault : List VK := [.s (.dat YI)]
def F_impl_guestFault (x : denP P_impl_guestFault) : Option (denV R_impl_guestFault × denQ P_impl_guestFault) :=
  (F_impl_PolicyFault (x.1, ())).bind fun r1 =>
  if (r1.1.1 == (0 : Int)) = true then
    (F_impl_Policy_isGuest (x.1, x.2.1, ())).bind fun r2 =>
    if (!r2.1.1) then
      some (((4 : Int), ()), ())
    else
      some ((r1.1.1, ()), ())
  else
    some ((r1.1.1, ()), ())
abbrev C_impl_guestFault : Con := ⟨P_impl_guestFault, R_impl_guestFault, F_impl_guestFault, false⟩
abbrev G_impl_guestFault : Env := [(103, C_impl_Policy_isGuest), (113, C_impl_PolicyFault)]
theorem g_impl_guestFault : EnvOk Tryz.prog G_impl_guestFault := (env_cons s_impl_Policy_isGuest (env_cons s_impl_PolicyFault env_nil))
theorem r_impl_guestFault (x) : runFn T G_impl_guestFault [] Tryz.f82 P_impl_guestFault R_impl_guestFault x = F_impl_guestFault x := by kernel_rfl
theorem s_impl_guestFault : CallsOk Tryz.prog 82 C_impl_guestFault :=
  fn_calls (L := []) hT g_impl_guestFault Tryz.f82 (by kernel_rfl) (by kernel_rfl) (by kernel_rfl) (plain_ok (by kernel_rfl)) r_impl_guestFault
/-! impl.PagesFault -/
abbrev P_impl_PagesFault : List PK := [.val Y24, .val YI]
abbrev R_impl_PagesFault : List VK := [.s (.dat YI)]
abbrev i_impl_PagesFault_6 : Shp := { slots := [(1, .s (.dat YI)), (15, .s (.dat Y24)), (16, .s (.dat YI)), (17, .s (.dat YI))], boxes := [], rows := [] }
abbrev o_impl_PagesFault_6 : List (Ex × Shp) := [(.exit 1, { slots := [], boxes := [], rows := [] }), (.ret, { slots := [(4, .s (.dat YI))], boxes := [], rows := [] })]
def l_impl_PagesFault_6 (rec : i_impl_PagesFault_6.den → Option (denO o_impl_PagesFault_6)) (u6 : i_impl_PagesFault_6.den) : Option (denO o_impl_PagesFault_6) :=
  if (ltI u6.1.2.2.2.1 u6.1.2.2.1) then
    if 0 ≤ u6.1.2.2.2.1 then
      ((u6.1.2.1)[(u6.1.2.2.2.1).toNat]?).bind fun y7 =>
      let v8 := (IntKind.i64.wrap (u6.1.1 - (1 : Int)))
      (F_impl_within (y7.1, (-1 : Int), v8, ())).bind fun r9 =>
      if (!r9.1.1) = false then
        (F_impl_within (y7.2.1, (0 : Int), (7 : Int), ())).bind fun r10 =>
        if (!r10.1.1) then
          some (.inr (.inl (((3 : Int), ()), ((), ()))))
        else
          if (y7.1 == (-1 : Int)) = true then
            if (y7.2.1 != (0 : Int)) then
              some (.inr (.inl (((1 : Int), ()), ((), ()))))
            else
              let v11 := (IntKind.i64.wrap (u6.1.2.2.2.1 + (1 : Int)))
              rec ((u6.1.1, (u6.1.2.1, (u6.1.2.2.1, (v11, ())))), ((), ()))
          else
            let v12 := (IntKind.i64.wrap (u6.1.2.2.2.1 + (1 : Int)))
            rec ((u6.1.1, (u6.1.2.1, (u6.1.2.2.1, (v12, ())))), ((), ()))
      else
        some (.inr (.inl (((3 : Int), ()), ((), ()))))
    else none
  else
    some (.inl ((), ((), ())))
def L_impl_PagesFault_6 (x : i_impl_PagesFault_6.den) : Option (denO o_impl_PagesFault_6) := iterF l_impl_PagesFault_6 lots x
def F_impl_PagesFault (x : denP P_impl_PagesFault) : Option (denV R_impl_PagesFault × denQ P_impl_PagesFault) :=
  (F_impl_within (x.2.1, (1 : Int), (24 : Int), ())).bind fun r1 =>
  if (!r1.1.1) then
    some (((3 : Int), ()), ())
  else
    let v2 := ((x.1.length : Nat) : Int)
    if (v2 != (8 : Int)) then
      some (((1 : Int), ()), ())
    else
      let v3 := ((x.1.length : Nat) : Int)
      (L_impl_PagesFault_6 ((x.2.1, (x.1, (v3, ((0 : Int), ())))), ((), ()))).bind fun z13 =>
      match z13 with
      | .inl x14 =>
        some (((0 : Int), ()), ())
      | .inr z13_ =>
        match z13_ with
        | .inl x15 =>
          some ((x15.1.1, ()), ())
        | .inr z13__ =>
          none
abbrev C_impl_PagesFault : Con := ⟨P_impl_PagesFault, R_impl_PagesFault, F_impl_PagesFault, false⟩
abbrev G_impl_PagesFault : Env := [(116, C_impl_within)]
theorem g_impl_PagesFault : EnvOk Tryz.prog G_impl_PagesFault := (env_cons s_impl_within env_nil)
abbrev c_impl_PagesFault_6 : Cut := ⟨i_impl_PagesFault_6, o_impl_PagesFault_6, fun x => iterF l_impl_PagesFault_6 lots x⟩
theorem t_impl_PagesFault_6 (rec x) : run T G_impl_PagesFault [] (nav Tryz.f140 [1, 1, 0, 1, 0, 0]) (mk 44 i_impl_PagesFault_6 x) (loopK i_impl_PagesFault_6 o_impl_PagesFault_6 rec) = l_impl_PagesFault_6 rec x := by kernel_rfl
theorem k_impl_PagesFault_6 : CutOk Tryz.prog 44 (.loop (nav Tryz.f140 [1, 1, 0, 1, 0, 0])) c_impl_PagesFault_6 :=
  loop_cut (L := []) hT g_impl_PagesFault t_impl_PagesFault_6 (plain_ok (by kernel_rfl)) _
theorem r_impl_PagesFault (x) : runFn T G_impl_PagesFault [(6, c_impl_PagesFault_6)] Tryz.f140 P_impl_PagesFault R_impl_PagesFault x = F_impl_PagesFault x := by kernel_rfl
theorem s_impl_PagesFault : CallsOk Tryz.prog 140 C_impl_PagesFault :=
  fn_calls (L := [(6, c_impl_PagesFault_6)]) hT g_impl_PagesFault Tryz.f140 (by kernel_rfl) (by kernel_rfl) (by kernel_rfl) (seq_ok (plain_ok (by kernel_rfl)) (seq_ok (plain_ok (by kernel_rfl)) (seq_ok (seq_ok (plain_ok (by kernel_rfl)) (block_ok (by kernel_rfl) (loop_ok (by kernel_rfl) k_impl_PagesFault_6))) (plain_ok (by kernel_rfl))))) r_impl_PagesFault
/-! impl.SoloFault -/
abbrev P_impl_SoloFault : List PK := [.val Y71]
abbrev R_impl_SoloFault : List VK := [.s (.dat YI)]
def F_impl_SoloFault (x : denP P_impl_SoloFault) : Option (denV R_impl_SoloFault × denQ P_impl_SoloFault) :=
  (F_impl_HartFault (x.1.1, ())).bind fun r1 =>
  (F_impl_PagesFault (x.1.2.1, (8 : Int), ())).bind fun r2 =>
  (F_impl_firstOf ([r1.1.1, r2.1.1], ())).bind fun r3 =>
  if (r3.1.1 != (0 : Int)) then
    some ((r3.1.1, ()), ())
  else
    (F_impl_MemoryFault (x.1.2.2.1, ())).bind fun r4 =>
    if (r4.1.1 != (0 : Int)) = false then
      let v5 := ((x.1.2.2.1.length : Nat) : Int)
      if (v5 != (64 : Int)) then
        some (((1 : Int), ()), ())
      else
        some (((0 : Int), ()), ())
    else
      some (((1 : Int), ()), ())
abbrev C_impl_SoloFault : Con := ⟨P_impl_SoloFault, R_impl_SoloFault, F_impl_SoloFault, false⟩
abbrev G_impl_SoloFault : Env := [(55, C_impl_firstOf), (115, C_impl_HartFault), (140, C_impl_PagesFault), (141, C_impl_MemoryFault)]
theorem g_impl_SoloFault : EnvOk Tryz.prog G_impl_SoloFault := (env_cons s_impl_firstOf (env_cons s_impl_HartFault (env_cons s_impl_PagesFault (env_cons s_impl_MemoryFault env_nil))))
theorem r_impl_SoloFault (x) : runFn T G_impl_SoloFault [] Tryz.f92 P_impl_SoloFault R_impl_SoloFault x = F_impl_SoloFault x := by kernel_rfl
theorem s_impl_SoloFault : CallsOk Tryz.prog 92 C_impl_SoloFault :=
  fn_calls (L := []) hT g_impl_SoloFault Tryz.f92 (by kernel_rfl) (by kernel_rfl) (by kernel_rfl) (plain_ok (by kernel_rfl)) r_impl_SoloFault
/-! (impl.Solo).viewOf -/
abbrev P_impl_Solo_viewOf : List PK := [.val Y71, .ptr Y26, .val YI]
abbrev R_impl_Solo_viewOf : List VK := [.g [.own 2 YI, .dat YI, .own 2 YI, .dat .bool, .dat .bool, .dat .bool, .dat YI, .own 2 YI, .own 2 YI, .own 2 YI, .own 2 YI]]
abbrev i_impl_Solo_viewOf_3 : Shp := { slots := [(2, .s (.dat YI)), (3, .s (.ptr 3 0)), (6, .s (.ptr 6 0)), (7, .s (.ptr 7 0)), (30, .s (.dat Y23)), (31, .s (.dat YI)), (32, .s (.dat YI))], boxes := [(3, [.dat Y28, .dat YI, .dat Y28, .dat .bool, .dat .bool, .dat .bool, .dat YI, .dat Y28, .dat Y28, .dat Y24, .dat Y28]), (6, [.own 2 YI, .dat YI, .own 2 YI, .dat .bool, .dat .bool, .dat .bool, .dat YI, .own 2 YI, .own 2 YI, .own 2 YI, .own 2 YI]), (7, [.own 2 YI, .dat YI, .own 2 YI, .dat .bool, .dat .bool, .dat .bool, .dat YI, .own 2 YI, .own 2 YI, .own 2 YI, .own 2 YI])], rows := [] }
abbrev o_impl_Solo_viewOf_3 : List (Ex × Shp) := [(.exit 0, { slots := [(6, .s (.ptr 6 0)), (7, .s (.ptr 7 0))], boxes := [(6, [.own 2 YI, .dat YI, .own 2 YI, .dat .bool, .dat .bool, .dat .bool, .dat YI, .own 2 YI, .own 2 YI, .own 2 YI, .own 2 YI]), (7, [.own 2 YI, .dat YI, .own 2 YI, .dat .bool, .dat .bool, .dat .bool, .dat YI, .own 2 YI, .own 2 YI, .own 2 YI, .own 2 YI])], rows := [] })]
def l_impl_Solo_viewOf_3 (rec : i_impl_Solo_viewOf_3.den → Option (denO o_impl_Solo_viewOf_3)) (u3 : i_impl_Solo_viewOf_3.den) : Option (denO o_impl_Solo_viewOf_3) :=
  if (ltI u3.1.2.2.2.2.2.2.1 u3.1.2.2.2.2.2.1) then
    if 0 ≤ u3.1.2.2.2.2.2.2.1 then
      ((u3.1.2.2.2.2.1)[(u3.1.2.2.2.2.2.2.1).toNat]?).bind fun y10 =>
      if (y10.1 == u3.1.1) then
        (F_impl_pageOf (u3.2.1.1.2.2.2.2.2.2.2.2.2.2.1, y10.2.2.2.1, ())).bind fun r11 =>
        if (u3.2.1.2.2.1.2.2.2.2.2.2.2.2.2.2.1.length + r11.1.1.length) * 8 ≤ 140737488355328 then
          let v12 := (u3.2.1.2.2.1.2.2.2.2.2.2.2.2.2.2.1 ++ r11.1.1)
          let v13 := (IntKind.i64.wrap (u3.1.2.2.2.2.2.2.1 + (1 : Int)))
          rec ((u3.1.1, ((), ((), ((), (u3.1.2.2.2.2.1, (u3.1.2.2.2.2.2.1, (v13, ()))))))), (((u3.2.1.1.1, (u3.2.1.1.2.1, (u3.2.1.1.2.2.1, (u3.2.1.1.2.2.2.1, (u3.2.1.1.2.2.2.2.1, (u3.2.1.1.2.2.2.2.2.1, (u3.2.1.1.2.2.2.2.2.2.1, (u3.2.1.1.2.2.2.2.2.2.2.1, (u3.2.1.1.2.2.2.2.2.2.2.2.1, (u3.2.1.1.2.2.2.2.2.2.2.2.2.1, (u3.2.1.1.2.2.2.2.2.2.2.2.2.2.1, ()))))))))))), ((u3.2.1.2.1.1, (u3.2.1.2.1.2.1, (u3.2.1.2.1.2.2.1, (u3.2.1.2.1.2.2.2.1, (u3.2.1.2.1.2.2.2.2.1, (u3.2.1.2.1.2.2.2.2.2.1, (u3.2.1.2.1.2.2.2.2.2.2.1, (u3.2.1.2.1.2.2.2.2.2.2.2.1, (u3.2.1.2.1.2.2.2.2.2.2.2.2.1, (u3.2.1.2.1.2.2.2.2.2.2.2.2.2.1, (u3.2.1.2.1.2.2.2.2.2.2.2.2.2.2.1, ()))))))))))), ((u3.2.1.2.2.1.1, (u3.2.1.2.2.1.2.1, (u3.2.1.2.2.1.2.2.1, (u3.2.1.2.2.1.2.2.2.1, (u3.2.1.2.2.1.2.2.2.2.1, (u3.2.1.2.2.1.2.2.2.2.2.1, (u3.2.1.2.2.1.2.2.2.2.2.2.1, (u3.2.1.2.2.1.2.2.2.2.2.2.2.1, (u3.2.1.2.2.1.2.2.2.2.2.2.2.2.1, (u3.2.1.2.2.1.2.2.2.2.2.2.2.2.2.1, (v12, ()))))))))))), ()))), ()))
        else none
      else
        let v14 := (IntKind.i64.wrap (u3.1.2.2.2.2.2.2.1 + (1 : Int)))
        rec ((u3.1.1, ((), ((), ((), (u3.1.2.2.2.2.1, (u3.1.2.2.2.2.2.1, (v14, ()))))))), (((u3.2.1.1.1, (u3.2.1.1.2.1, (u3.2.1.1.2.2.1, (u3.2.1.1.2.2.2.1, (u3.2.1.1.2.2.2.2.1, (u3.2.1.1.2.2.2.2.2.1, (u3.2.1.1.2.2.2.2.2.2.1, (u3.2.1.1.2.2.2.2.2.2.2.1, (u3.2.1.1.2.2.2.2.2.2.2.2.1, (u3.2.1.1.2.2.2.2.2.2.2.2.2.1, (u3.2.1.1.2.2.2.2.2.2.2.2.2.2.1, ()))))))))))), ((u3.2.1.2.1.1, (u3.2.1.2.1.2.1, (u3.2.1.2.1.2.2.1, (u3.2.1.2.1.2.2.2.1, (u3.2.1.2.1.2.2.2.2.1, (u3.2.1.2.1.2.2.2.2.2.1, (u3.2.1.2.1.2.2.2.2.2.2.1, (u3.2.1.2.1.2.2.2.2.2.2.2.1, (u3.2.1.2.1.2.2.2.2.2.2.2.2.1, (u3.2.1.2.1.2.2.2.2.2.2.2.2.2.1, (u3.2.1.2.1.2.2.2.2.2.2.2.2.2.2.1, ()))))))))))), ((u3.2.1.2.2.1.1, (u3.2.1.2.2.1.2.1, (u3.2.1.2.2.1.2.2.1, (u3.2.1.2.2.1.2.2.2.1, (u3.2.1.2.2.1.2.2.2.2.1, (u3.2.1.2.2.1.2.2.2.2.2.1, (u3.2.1.2.2.1.2.2.2.2.2.2.1, (u3.2.1.2.2.1.2.2.2.2.2.2.2.1, (u3.2.1.2.2.1.2.2.2.2.2.2.2.2.1, (u3.2.1.2.2.1.2.2.2.2.2.2.2.2.2.1, (u3.2.1.2.2.1.2.2.2.2.2.2.2.2.2.2.1, ()))))))))))), ()))), ()))
    else none
  else
    some (.inl (((), ((), ())), (((u3.2.1.2.1.1, (u3.2.1.2.1.2.1, (u3.2.1.2.1.2.2.1, (u3.2.1.2.1.2.2.2.1, (u3.2.1.2.1.2.2.2.2.1, (u3.2.1.2.1.2.2.2.2.2.1, (u3.2.1.2.1.2.2.2.2.2.2.1, (u3.2.1.2.1.2.2.2.2.2.2.2.1, (u3.2.1.2.1.2.2.2.2.2.2.2.2.1, (u3.2.1.2.1.2.2.2.2.2.2.2.2.2.1, (u3.2.1.2.1.2.2.2.2.2.2.2.2.2.2.1, ()))))))))))), ((u3.2.1.2.2.1.1, (u3.2.1.2.2.1.2.1, (u3.2.1.2.2.1.2.2.1, (u3.2.1.2.2.1.2.2.2.1, (u3.2.1.2.2.1.2.2.2.2.1, (u3.2.1.2.2.1.2.2.2.2.2.1, (u3.2.1.2.2.1.2.2.2.2.2.2.1, (u3.2.1.2.2.1.2.2.2.2.2.2.2.1, (u3.2.1.2.2.1.2.2.2.2.2.2.2.2.1, (u3.2.1.2.2.1.2.2.2.2.2.2.2.2.2.1, (u3.2.1.2.2.1.2.2.2.2.2.2.2.2.2.2.1, ()))))))))))), ())), ())))
def L_impl_Solo_viewOf_3 (x : i_impl_Solo_viewOf_3.den) : Option (denO o_impl_Solo_viewOf_3) := iterF l_impl_Solo_viewOf_3 lots x
def F_impl_Solo_viewOf (x : denP P_impl_Solo_viewOf) : Option (denV R_impl_Solo_viewOf × denQ P_impl_Solo_viewOf) :=
  (F_impl_Hart_own (x.1.1, ())).bind fun r1 =>
  if 0 ≤ x.2.2.1 then
    ((x.2.1.1)[(x.2.2.1).toNat]?).bind fun y2 =>
    let v3 := ((y2.length : Nat) : Int)
    let v4 := (IntKind.i64.wrap (v3 * (8 : Int)))
    if 0 ≤ (0 : Int) ∧ (0 : Int) ≤ v4 ∧ v4 ≤ ((x.1.2.2.1.length : Nat) : Int) then
      let v5 := ((x.1.2.2.1.drop ((0 : Int)).toNat).take ((v4).toNat - ((0 : Int)).toNat))
      (F_slices_Clone_int64 (v5, ())).bind fun r6 =>
      let v7 := ((x.2.1.2.1.length : Nat) : Int)
      (L_impl_Solo_viewOf_3 ((x.2.2.1, ((), ((), ((), (x.2.1.2.1, (v7, ((0 : Int), ()))))))), (((x.1.1.1, (x.1.1.2.1, (x.1.1.2.2.1, (x.1.1.2.2.2.1, (x.1.1.2.2.2.2.1, (x.1.1.2.2.2.2.2.1, (x.1.1.2.2.2.2.2.2.1, (x.1.1.2.2.2.2.2.2.2.1, (x.1.1.2.2.2.2.2.2.2.2.1, (x.1.2.1, (x.1.2.2.1, ()))))))))))), ((([] : List (den YI)), ((0 : Int), (([] : List (den YI)), (false, (false, (false, ((0 : Int), (([] : List (den YI)), (([] : List (den YI)), (([] : List (den YI)), (([] : List (den YI)), ()))))))))))), ((r1.1.1.1, (r1.1.1.2.1, (r1.1.1.2.2.1, (r1.1.1.2.2.2.1, (r1.1.1.2.2.2.2.1, (r1.1.1.2.2.2.2.2.1, (r1.1.1.2.2.2.2.2.2.1, (r1.1.1.2.2.2.2.2.2.2.1, (r1.1.1.2.2.2.2.2.2.2.2.1, (r6.1.1, (([] : List (den YI)), ()))))))))))), ()))), ()))).bind fun z15 =>
      match z15 with
      | .inl x16 =>
        some (((x16.2.1.2.1.1, (x16.2.1.2.1.2.1, (x16.2.1.2.1.2.2.1, (x16.2.1.2.1.2.2.2.1, (x16.2.1.2.1.2.2.2.2.1, (x16.2.1.2.1.2.2.2.2.2.1, (x16.2.1.2.1.2.2.2.2.2.2.1, (x16.2.1.2.1.2.2.2.2.2.2.2.1, (x16.2.1.2.1.2.2.2.2.2.2.2.2.1, (x16.2.1.2.1.2.2.2.2.2.2.2.2.2.1, (x16.2.1.2.1.2.2.2.2.2.2.2.2.2.2.1, ()))))))))))), ()), ())
      | .inr z15_ =>
        none
    else none
  else none
abbrev C_impl_Solo_viewOf : Con := ⟨P_impl_Solo_viewOf, R_impl_Solo_viewOf, F_impl_Solo_viewOf, false⟩
abbrev G_impl_Solo_viewOf : Env := [(127, C_slices_Clone_int64), (142, C_impl_Hart_own), (143, C_impl_pageOf)]
theorem g_impl_Solo_viewOf : EnvOk Tryz.prog G_impl_Solo_viewOf := (env_cons s_slices_Clone_int64 (env_cons s_impl_Hart_own (env_cons s_impl_pageOf env_nil)))
abbrev c_impl_Solo_viewOf_3 : Cut := ⟨i_impl_Solo_viewOf_3, o_impl_Solo_viewOf_3, fun x => iterF l_impl_Solo_viewOf_3 lots x⟩
theorem t_impl_Solo_viewOf_3 (rec x) : run T G_impl_Solo_viewOf [] (nav Tryz.f93 [1, 1, 0, 1, 0, 0]) (mk 51 i_impl_Solo_viewOf_3 x) (loopK i_impl_Solo_viewOf_3 o_impl_Solo_viewOf_3 rec) = l_impl_Solo_viewOf_3 rec x := by kernel_rfl
theorem k_impl_Solo_viewOf_3 : CutOk Tryz.prog 51 (.loop (nav Tryz.f93 [1, 1, 0, 1, 0, 0])) c_impl_Solo_viewOf_3 :=
  loop_cut (L := []) hT g_impl_Solo_viewOf t_impl_Solo_viewOf_3 (plain_ok (by kernel_rfl)) _
theorem r_impl_Solo_viewOf (x) : runFn T G_impl_Solo_viewOf [(3, c_impl_Solo_viewOf_3)] Tryz.f93 P_impl_Solo_viewOf R_impl_Solo_viewOf x = F_impl_Solo_viewOf x := by kernel_rfl
theorem s_impl_Solo_viewOf : CallsOk Tryz.prog 93 C_impl_Solo_viewOf :=
  fn_calls (L := [(3, c_impl_Solo_viewOf_3)]) hT g_impl_Solo_viewOf Tryz.f93 (by kernel_rfl) (by kernel_rfl) (by kernel_rfl) (seq_ok (plain_ok (by kernel_rfl)) (seq_ok (plain_ok (by kernel_rfl)) (seq_ok (seq_ok (plain_ok (by kernel_rfl)) (block_ok (by kernel_rfl) (loop_ok (by kernel_rfl) k_impl_Solo_viewOf_3))) (plain_ok (by kernel_rfl))))) r_impl_Solo_viewOf
/-! impl.SoloView -/
abbrev P_impl_SoloView : List PK := [.val Y26, .val Y71, .val YI]
abbrev R_impl_SoloView : List VK := [.g [.dat YI, .own 2 YI, .dat YI, .own 2 YI, .dat .bool, .dat .bool, .dat .bool, .dat YI, .own 2 YI, .own 2 YI, .own 2 YI, .own 2 YI]]
def F_impl_SoloView (x : denP P_impl_SoloView) : Option (denV R_impl_SoloView × denQ P_impl_SoloView) :=
  (F_impl_guestFault (x.1, x.2.2.1, ())).bind fun r1 =>
  (F_impl_SoloFault (x.2.1, ())).bind fun r2 =>
  (F_impl_firstOf ([r1.1.1, r2.1.1], ())).bind fun r3 =>
  if (r3.1.1 != (0 : Int)) then
    some (((r3.1.1, (([] : List (den YI)), ((0 : Int), (([] : List (den YI)), (false, (false, (false, ((0 : Int), (([] : List (den YI)), (([] : List (den YI)), (([] : List (den YI)), (([] : List (den YI)), ())))))))))))), ()), ())
  else
    (F_impl_Solo_viewOf (x.2.1, x.1, x.2.2.1, ())).bind fun r4 =>
    some ((((0 : Int), (r4.1.1.1, (r4.1.1.2.1, (r4.1.1.2.2.1, (r4.1.1.2.2.2.1, (r4.1.1.2.2.2.2.1, (r4.1.1.2.2.2.2.2.1, (r4.1.1.2.2.2.2.2.2.1, (r4.1.1.2.2.2.2.2.2.2.1, (r4.1.1.2.2.2.2.2.2.2.2.1, (r4.1.1.2.2.2.2.2.2.2.2.2.1, (r4.1.1.2.2.2.2.2.2.2.2.2.2.1, ())))))))))))), ()), ())
abbrev C_impl_SoloView : Con := ⟨P_impl_SoloView, R_impl_SoloView, F_impl_SoloView, false⟩
abbrev G_impl_SoloView : Env := [(55, C_impl_firstOf), (82, C_impl_guestFault), (92, C_impl_SoloFault), (93, C_impl_Solo_viewOf)]
theorem g_impl_SoloView : EnvOk Tryz.prog G_impl_SoloView := (env_cons s_impl_firstOf (env_cons s_impl_guestFault (env_cons s_impl_SoloFault (env_cons s_impl_Solo_viewOf env_nil))))
theorem r_impl_SoloView (x) : runFn T G_impl_SoloView [] Tryz.f39 P_impl_SoloView R_impl_SoloView x = F_impl_SoloView x := by kernel_rfl
theorem s_impl_SoloView : CallsOk Tryz.prog 39 C_impl_SoloView :=
  fn_calls (L := []) hT g_impl_SoloView Tryz.f39 (by kernel_rfl) (by kernel_rfl) (by kernel_rfl) (plain_ok (by kernel_rfl)) r_impl_SoloView
/-! laws.eqPage -/
abbrev P_laws_eqPage : List PK := [.val Y99, .val Y99]
abbrev R_laws_eqPage : List VK := [.s (.dat .bool)]
def F_laws_eqPage (x : denP P_laws_eqPage) : Option (denV R_laws_eqPage × denQ P_laws_eqPage) :=
  if (x.1.1 != x.2.1.1) then
    some ((false, ()), ())
  else
    if (x.1.2.1 != x.2.1.2.1) then
      some ((false, ()), ())
    else
      some ((true, ()), ())
abbrev C_laws_eqPage : Con := ⟨P_laws_eqPage, R_laws_eqPage, F_laws_eqPage, false⟩
abbrev G_laws_eqPage : Env := []
theorem g_laws_eqPage : EnvOk Tryz.prog G_laws_eqPage := env_nil
theorem r_laws_eqPage (x) : runFn T G_laws_eqPage [] Tryz.f144 P_laws_eqPage R_laws_eqPage x = F_laws_eqPage x := by kernel_rfl
theorem s_laws_eqPage : CallsOk Tryz.prog 144 C_laws_eqPage :=
  fn_calls (L := []) hT g_laws_eqPage Tryz.f144 (by kernel_rfl) (by kernel_rfl) (by kernel_rfl) (plain_ok (by kernel_rfl)) r_laws_eqPage
/-! laws.eqPageS -/
abbrev P_laws_eqPageS : List PK := [.val Y24, .val Y24]
abbrev R_laws_eqPageS : List VK := [.s (.dat .bool)]
abbrev i_laws_eqPageS_4 : Shp := { slots := [(0, .s (.dat Y24)), (1, .s (.dat Y24)), (5, .s (.dat YI))], boxes := [], rows := [] }
abbrev o_laws_eqPageS_4 : List (Ex × Shp) := [(.exit 0, { slots := [], boxes := [], rows := [] }), (.ret, { slots := [(4, .s (.dat .bool))], boxes := [], rows := [] })]
def l_laws_eqPageS_4 (rec : i_laws_eqPageS_4.den → Option (denO o_laws_eqPageS_4)) (u4 : i_laws_eqPageS_4.den) : Option (denO o_laws_eqPageS_4) :=
  let v6 := ((u4.1.1.length : Nat) : Int)
  if (ltI u4.1.2.2.1 v6) then
    if 0 ≤ u4.1.2.2.1 then
      ((u4.1.1)[(u4.1.2.2.1).toNat]?).bind fun y7 =>
      if 0 ≤ u4.1.2.2.1 then
        ((u4.1.2.1)[(u4.1.2.2.1).toNat]?).bind fun y8 =>
        (F_laws_eqPage (y7, y8, ())).bind fun r9 =>
        if (!r9.1.1) then
          some (.inr (.inl ((false, ()), ((), ()))))
        else
          let v10 := (IntKind.i64.wrap (u4.1.2.2.1 + (1 : Int)))
          rec ((u4.1.1, (u4.1.2.1, (v10, ()))), ((), ()))
      else none
    else none
  else
    some (.inl ((), ((), ())))
def L_laws_eqPageS_4 (x : i_laws_eqPageS_4.den) : Option (denO o_laws_eqPageS_4) := iterF l_laws_eqPageS_4 lots x
def F_laws_eqPageS (x : denP P_laws_eqPageS) : Option (denV R_laws_eqPageS × denQ P_laws_eqPageS) :=
  let v1 := ((x.1.length : Nat) : Int)
  let v2 := ((x.2.1.length : Nat) : Int)
  if (v1 != v2) then
    some ((false, ()), ())
  else
    (L_laws_eqPageS_4 ((x.1, (x.2.1, ((0 : Int), ()))), ((), ()))).bind fun z11 =>
    match z11 with
    | .inl x12 =>
      some ((true, ()), ())
    | .inr z11_ =>
      match z11_ with
      | .inl x13 =>
        some ((x13.1.1, ()), ())
      | .inr z11__ =>
        none
abbrev C_laws_eqPageS : Con := ⟨P_laws_eqPageS, R_laws_eqPageS, F_laws_eqPageS, false⟩
abbrev G_laws_eqPageS : Env := [(144, C_laws_eqPage)]
theorem g_laws_eqPageS : EnvOk Tryz.prog G_laws_eqPageS := (env_cons s_laws_eqPage env_nil)
abbrev c_laws_eqPageS_4 : Cut := ⟨i_laws_eqPageS_4, o_laws_eqPageS_4, fun x => iterF l_laws_eqPageS_4 lots x⟩
theorem t_laws_eqPageS_4 (rec x) : run T G_laws_eqPageS [] (nav Tryz.f96 [1, 1, 0, 1, 0, 0]) (mk 27 i_laws_eqPageS_4 x) (loopK i_laws_eqPageS_4 o_laws_eqPageS_4 rec) = l_laws_eqPageS_4 rec x := by kernel_rfl
theorem k_laws_eqPageS_4 : CutOk Tryz.prog 27 (.loop (nav Tryz.f96 [1, 1, 0, 1, 0, 0])) c_laws_eqPageS_4 :=
  loop_cut (L := []) hT g_laws_eqPageS t_laws_eqPageS_4 (plain_ok (by kernel_rfl)) _
theorem r_laws_eqPageS (x) : runFn T G_laws_eqPageS [(4, c_laws_eqPageS_4)] Tryz.f96 P_laws_eqPageS R_laws_eqPageS x = F_laws_eqPageS x := by kernel_rfl
theorem s_laws_eqPageS : CallsOk Tryz.prog 96 C_laws_eqPageS :=
  fn_calls (L := [(4, c_laws_eqPageS_4)]) hT g_laws_eqPageS Tryz.f96 (by kernel_rfl) (by kernel_rfl) (by kernel_rfl) (seq_ok (plain_ok (by kernel_rfl)) (seq_ok (plain_ok (by kernel_rfl)) (seq_ok (seq_ok (plain_ok (by kernel_rfl)) (block_ok (by kernel_rfl) (loop_ok (by kernel_rfl) k_laws_eqPageS_4))) (plain_ok (by kernel_rfl))))) r_laws_eqPageS
/-! laws.eqSolo -/
abbrev P_laws_eqSolo : List PK := [.val Y71, .val Y71]
abbrev R_laws_eqSolo : List VK := [.s (.dat .bool)]
def F_laws_eqSolo (x : denP P_laws_eqSolo) : Option (denV R_laws_eqSolo × denQ P_laws_eqSolo) :=
  (F_laws_eqHart (x.1.1, x.2.1.1, ())).bind fun r1 =>
  if (!r1.1.1) then
    some ((false, ()), ())
  else
    (F_laws_eqPageS (x.1.2.1, x.2.1.2.1, ())).bind fun r2 =>
    if (!r2.1.1) then
      some ((false, ()), ())
    else
      (F_laws_eqInt64S (x.1.2.2.1, x.2.1.2.2.1, ())).bind fun r3 =>
      if (!r3.1.1) then
        some ((false, ()), ())
      else
        some ((true, ()), ())
abbrev C_laws_eqSolo : Con := ⟨P_laws_eqSolo, R_laws_eqSolo, F_laws_eqSolo, false⟩
abbrev G_laws_eqSolo : Env := [(34, C_laws_eqInt64S), (95, C_laws_eqHart), (96, C_laws_eqPageS)]
theorem g_laws_eqSolo : EnvOk Tryz.prog G_laws_eqSolo := (env_cons s_laws_eqInt64S (env_cons s_laws_eqHart (env_cons s_laws_eqPageS env_nil)))
theorem r_laws_eqSolo (x) : runFn T G_laws_eqSolo [] Tryz.f41 P_laws_eqSolo R_laws_eqSolo x = F_laws_eqSolo x := by kernel_rfl
theorem s_laws_eqSolo : CallsOk Tryz.prog 41 C_laws_eqSolo :=
  fn_calls (L := []) hT g_laws_eqSolo Tryz.f41 (by kernel_rfl) (by kernel_rfl) (by kernel_rfl) (plain_ok (by kernel_rfl)) r_laws_eqSolo
/-! laws.markPageS -/
abbrev P_laws_markPageS : List PK := [.row 184 Y99, .val YI]
abbrev R_laws_markPageS : List VK := [.s (.dat YI)]
abbrev i_laws_markPageS_2 : Shp := { slots := [(0, .s (.ref 9000100)), (1, .s (.dat YI)), (5, .s (.dat YI))], boxes := [], rows := [(9000100, 184, Y99)] }
abbrev o_laws_markPageS_2 : List (Ex × Shp) := [(.exit 0, { slots := [(1, .s (.dat YI))], boxes := [], rows := [(9000100, 184, Y99)] })]
def l_laws_markPageS_2 (rec : i_laws_markPageS_2.den → Option (denO o_laws_markPageS_2)) (u2 : i_laws_markPageS_2.den) : Option (denO o_laws_markPageS_2) :=
  let v3 := ((u2.2.2.1.length : Nat) : Int)
  if (ltI u2.1.2.2.1 v3) then
    if 0 ≤ u2.1.2.2.1 ∧ u2.1.2.2.1 < ((u2.2.2.1.length : Nat) : Int) then
      ((u2.2.2.1)[(u2.1.2.2.1).toNat]?).bind fun y4 =>
      let v5 := (u2.2.2.1.set (u2.1.2.2.1).toNat (u2.1.2.1, y4.2))
      let v6 := (IntKind.i64.wrap (u2.1.2.1 + (1 : Int)))
      if 0 ≤ u2.1.2.2.1 ∧ u2.1.2.2.1 < ((v5.length : Nat) : Int) then
        ((v5)[(u2.1.2.2.1).toNat]?).bind fun y7 =>
        let v8 := (v5.set (u2.1.2.2.1).toNat (y7.1, (v6, y7.2.2)))
        let v9 := (IntKind.i64.wrap (v6 + (1 : Int)))
        let v10 := (IntKind.i64.wrap (u2.1.2.2.1 + (1 : Int)))
        rec (((), (v9, (v10, ()))), ((), (v8, ())))
      else none
    else none
  else
    some (.inl ((u2.1.2.1, ()), ((), (u2.2.2.1, ()))))
def L_laws_markPageS_2 (x : i_laws_markPageS_2.den) : Option (denO o_laws_markPageS_2) := iterF l_laws_markPageS_2 lots x
def F_laws_markPageS (x : denP P_laws_markPageS) : Option (denV R_laws_markPageS × denQ P_laws_markPageS) :=
  (L_laws_markPageS_2 (((), (x.2.1, ((0 : Int), ()))), ((), (x.1, ())))).bind fun z11 =>
  match z11 with
  | .inl x12 =>
    if (x.1.length == x12.2.2.1.length && true) = true then
      some ((x12.1.1, ()), (x12.2.2.1, ()))
    else none
  | .inr z11_ =>
    none
abbrev C_laws_markPageS : Con := ⟨P_laws_markPageS, R_laws_markPageS, F_laws_markPageS, false⟩
abbrev G_laws_markPageS : Env := []
theorem g_laws_markPageS : EnvOk Tryz.prog G_laws_markPageS := env_nil
abbrev c_laws_markPageS_2 : Cut := ⟨i_laws_markPageS_2, o_laws_markPageS_2, fun x => iterF l_laws_markPageS_2 lots x⟩
theorem t_laws_markPageS_2 (rec x) : run T G_laws_markPageS [] (nav Tryz.f98 [1, 0, 1, 0, 0]) (mk 27 i_laws_markPageS_2 x) (loopK i_laws_markPageS_2 o_laws_markPageS_2 rec) = l_laws_markPageS_2 rec x := by kernel_rfl
theorem k_laws_markPageS_2 : CutOk Tryz.prog 27 (.loop (nav Tryz.f98 [1, 0, 1, 0, 0])) c_laws_markPageS_2 :=
  loop_cut (L := []) hT g_laws_markPageS t_laws_markPageS_2 (plain_ok (by kernel_rfl)) _
theorem r_laws_markPageS (x) : runFn T G_laws_markPageS [(2, c_laws_markPageS_2)] Tryz.f98 P_laws_markPageS R_laws_markPageS x = F_laws_markPageS x := by kernel_rfl
theorem s_laws_markPageS : CallsOk Tryz.prog 98 C_laws_markPageS :=
  fn_calls (L := [(2, c_laws_markPageS_2)]) hT g_laws_markPageS Tryz.f98 (by kernel_rfl) (by kernel_rfl) (by kernel_rfl) (seq_ok (plain_ok (by kernel_rfl)) (seq_ok (seq_ok (plain_ok (by kernel_rfl)) (block_ok (by kernel_rfl) (loop_ok (by kernel_rfl) k_laws_markPageS_2))) (plain_ok (by kernel_rfl)))) r_laws_markPageS
/-! laws.markSolo -/
abbrev P_laws_markSolo : List PK := [.agg [.own 2 YI, .dat YI, .own 2 YI, .dat .bool, .dat .bool, .dat .bool, .dat YI, .own 2 YI, .own 2 YI, .own 184 Y99, .own 2 YI], .val YI]
abbrev R_laws_markSolo : List VK := [.s (.dat YI)]
def F_laws_markSolo (x : denP P_laws_markSolo) : Option (denV R_laws_markSolo × denQ P_laws_markSolo) :=
  (F_laws_markHart ((x.1.1, (x.1.2.1, (x.1.2.2.1, (x.1.2.2.2.1, (x.1.2.2.2.2.1, (x.1.2.2.2.2.2.1, (x.1.2.2.2.2.2.2.1, (x.1.2.2.2.2.2.2.2.1, (x.1.2.2.2.2.2.2.2.2.1, ()))))))))), x.2.1, ())).bind fun r1 =>
  if (((x.1.1.length == r1.2.1.1.length && (x.1.2.2.1.length == r1.2.1.2.1.length && (x.1.2.2.2.2.2.2.2.1.length == r1.2.1.2.2.1.length && (x.1.2.2.2.2.2.2.2.2.1.length == r1.2.1.2.2.2.1.length && true)))) && true) && true) = true then
    (F_laws_markPageS (x.1.2.2.2.2.2.2.2.2.2.1, r1.1.1, ())).bind fun r2 =>
    if ((x.1.2.2.2.2.2.2.2.2.2.1.length == r2.2.1.length && true) && true) = true then
      (F_laws_markInt64S (x.1.2.2.2.2.2.2.2.2.2.2.1, r2.1.1, ())).bind fun r3 =>
      if ((x.1.2.2.2.2.2.2.2.2.2.2.1.length == r3.2.1.length && true) && true) = true then
        if ((x.1.1.length == r1.2.1.1.length && (x.1.2.2.1.length == r1.2.1.2.1.length && (x.1.2.2.2.2.2.2.2.1.length == r1.2.1.2.2.1.length && (x.1.2.2.2.2.2.2.2.2.1.length == r1.2.1.2.2.2.1.length && (x.1.2.2.2.2.2.2.2.2.2.1.length == r2.2.1.length && (x.1.2.2.2.2.2.2.2.2.2.2.1.length == r3.2.1.length && true)))))) && true) = true then
          some ((r3.1.1, ()), ((r1.2.1.1, (r1.2.1.2.1, (r1.2.1.2.2.1, (r1.2.1.2.2.2.1, (r2.2.1, (r3.2.1, ())))))), ()))
        else none
      else none
    else none
  else none
abbrev C_laws_markSolo : Con := ⟨P_laws_markSolo, R_laws_markSolo, F_laws_markSolo, false⟩
abbrev G_laws_markSolo : Env := [(35, C_laws_markInt64S), (97, C_laws_markHart), (98, C_laws_markPageS)]
theorem g_laws_markSolo : EnvOk Tryz.prog G_laws_markSolo := (env_cons s_laws_markInt64S (env_cons s_laws_markHart (env_cons s_laws_markPageS env_nil)))
theorem r_laws_markSolo (x) : runFn T G_laws_markSolo [] Tryz.f42 P_laws_markSolo R_laws_markSolo x = F_laws_markSolo x := by kernel_rfl
theorem s_laws_markSolo : CallsOk Tryz.prog 42 C_laws_markSolo :=
  fn_calls (L := []) hT g_laws_markSolo Tryz.f42 (by kernel_rfl) (by kernel_rfl) (by kernel_rfl) (plain_ok (by kernel_rfl)) r_laws_markSolo
/-! laws.FnExactSoloView -/
abbrev P_laws_FnExactSoloView : List PK := [.val Y26, .val Y71, .val YI]
abbrev R_laws_FnExactSoloView : List VK := [.s (.dat .bool)]
def F_laws_FnExactSoloView (x : denP P_laws_FnExactSoloView) : Option (denV R_laws_FnExactSoloView × denQ P_laws_FnExactSoloView) :=
  (F_laws_szPolicy (x.1, (1048576 : Int), ())).bind fun r1 =>
  if (ltI r1.1.1 (0 : Int)) then
    some ((true, ()), ())
  else
    (F_laws_szSolo (x.2.1, r1.1.1, ())).bind fun r2 =>
    if (ltI r2.1.1 (0 : Int)) then
      some ((true, ()), ())
    else
      (F_laws_toPolicy (x.1, ())).bind fun r3 =>
      (F_laws_toSolo (x.2.1, ())).bind fun r4 =>
      (F_spec_SoloView ((r3.1.1.1, (r3.1.1.2.1, (r3.1.1.2.2.1, (r3.1.1.2.2.2.1, ())))), ((r4.1.1.1, (r4.1.1.2.1, (r4.1.1.2.2.1, (r4.1.1.2.2.2.1, (r4.1.1.2.2.2.2.1, (r4.1.1.2.2.2.2.2.1, (r4.1.1.2.2.2.2.2.2.1, (r4.1.1.2.2.2.2.2.2.2.1, (r4.1.1.2.2.2.2.2.2.2.2.1, ()))))))))), (r4.1.1.2.2.2.2.2.2.2.2.2.1, (r4.1.1.2.2.2.2.2.2.2.2.2.2.1, ()))), x.2.2.1, ())).bind fun r5 =>
      (F_laws_toPolicy (x.1, ())).bind fun r6 =>
      (F_laws_toSolo (x.2.1, ())).bind fun r7 =>
      (F_impl_SoloView ((r6.1.1.1, (r6.1.1.2.1, (r6.1.1.2.2.1, (r6.1.1.2.2.2.1, ())))), ((r7.1.1.1, (r7.1.1.2.1, (r7.1.1.2.2.1, (r7.1.1.2.2.2.1, (r7.1.1.2.2.2.2.1, (r7.1.1.2.2.2.2.2.1, (r7.1.1.2.2.2.2.2.2.1, (r7.1.1.2.2.2.2.2.2.2.1, (r7.1.1.2.2.2.2.2.2.2.2.1, ()))))))))), (r7.1.1.2.2.2.2.2.2.2.2.2.1, (r7.1.1.2.2.2.2.2.2.2.2.2.2.1, ()))), x.2.2.1, ())).bind fun r8 =>
      (F_laws_eqViewResult ((r8.1.1.1, (((r8.1.1.2.1, (r8.1.1.2.2.1, (r8.1.1.2.2.2.1, (r8.1.1.2.2.2.2.1, (r8.1.1.2.2.2.2.2.1, (r8.1.1.2.2.2.2.2.2.1, (r8.1.1.2.2.2.2.2.2.2.1, (r8.1.1.2.2.2.2.2.2.2.2.1, (r8.1.1.2.2.2.2.2.2.2.2.2.1, ()))))))))), (r8.1.1.2.2.2.2.2.2.2.2.2.2.1, (r8.1.1.2.2.2.2.2.2.2.2.2.2.2.1, ()))), ())), (r5.1.1.1, (((r5.1.1.2.1, (r5.1.1.2.2.1, (r5.1.1.2.2.2.1, (r5.1.1.2.2.2.2.1, (r5.1.1.2.2.2.2.2.1, (r5.1.1.2.2.2.2.2.2.1, (r5.1.1.2.2.2.2.2.2.2.1, (r5.1.1.2.2.2.2.2.2.2.2.1, (r5.1.1.2.2.2.2.2.2.2.2.2.1, ()))))))))), (r5.1.1.2.2.2.2.2.2.2.2.2.2.1, (r5.1.1.2.2.2.2.2.2.2.2.2.2.2.1, ()))), ())), ())).bind fun r9 =>
      if (!r9.1.1) then
        some ((false, ()), ())
      else
        (F_laws_toPolicy (x.1, ())).bind fun r10 =>
        (F_laws_eqPolicy ((r6.1.1.1, (r6.1.1.2.1, (r6.1.1.2.2.1, (r6.1.1.2.2.2.1, ())))), (r10.1.1.1, (r10.1.1.2.1, (r10.1.1.2.2.1, (r10.1.1.2.2.2.1, ())))), ())).bind fun r11 =>
        if (!r11.1.1) then
          some ((false, ()), ())
        else
          (F_laws_toSolo (x.2.1, ())).bind fun r12 =>
          (F_laws_eqSolo (((r7.1.1.1, (r7.1.1.2.1, (r7.1.1.2.2.1, (r7.1.1.2.2.2.1, (r7.1.1.2.2.2.2.1, (r7.1.1.2.2.2.2.2.1, (r7.1.1.2.2.2.2.2.2.1, (r7.1.1.2.2.2.2.2.2.2.1, (r7.1.1.2.2.2.2.2.2.2.2.1, ()))))))))), (r7.1.1.2.2.2.2.2.2.2.2.2.1, (r7.1.1.2.2.2.2.2.2.2.2.2.2.1, ()))), ((r12.1.1.1, (r12.1.1.2.1, (r12.1.1.2.2.1, (r12.1.1.2.2.2.1, (r12.1.1.2.2.2.2.1, (r12.1.1.2.2.2.2.2.1, (r12.1.1.2.2.2.2.2.2.1, (r12.1.1.2.2.2.2.2.2.2.1, (r12.1.1.2.2.2.2.2.2.2.2.1, ()))))))))), (r12.1.1.2.2.2.2.2.2.2.2.2.1, (r12.1.1.2.2.2.2.2.2.2.2.2.2.1, ()))), ())).bind fun r13 =>
          if (!r13.1.1) then
            some ((false, ()), ())
          else
            (F_laws_markPolicy ((r6.1.1.1, (r6.1.1.2.1, (r6.1.1.2.2.1, (r6.1.1.2.2.2.1, ())))), (1 : Int), ())).bind fun r14 =>
            if (((r6.1.1.1.length == r14.2.1.1.length && (r6.1.1.2.1.length == r14.2.1.2.1.length && (r6.1.1.2.2.1.length == r14.2.1.2.2.1.length && (r6.1.1.2.2.2.1.length == r14.2.1.2.2.2.1.length && true)))) && true) && true) = true then
              (F_laws_markSolo ((r7.1.1.1, (r7.1.1.2.1, (r7.1.1.2.2.1, (r7.1.1.2.2.2.1, (r7.1.1.2.2.2.2.1, (r7.1.1.2.2.2.2.2.1, (r7.1.1.2.2.2.2.2.2.1, (r7.1.1.2.2.2.2.2.2.2.1, (r7.1.1.2.2.2.2.2.2.2.2.1, (r7.1.1.2.2.2.2.2.2.2.2.2.1, (r7.1.1.2.2.2.2.2.2.2.2.2.2.1, ()))))))))))), r14.1.1, ())).bind fun r15 =>
              if (((r7.1.1.1.length == r15.2.1.1.length && (r7.1.1.2.2.1.length == r15.2.1.2.1.length && (r7.1.1.2.2.2.2.2.2.2.1.length == r15.2.1.2.2.1.length && (r7.1.1.2.2.2.2.2.2.2.2.1.length == r15.2.1.2.2.2.1.length && (r7.1.1.2.2.2.2.2.2.2.2.2.1.length == r15.2.1.2.2.2.2.1.length && (r7.1.1.2.2.2.2.2.2.2.2.2.2.1.length == r15.2.1.2.2.2.2.2.1.length && true)))))) && true) && true) = true then
                if (ltI r15.1.1 (0 : Int)) = false then
                  (F_laws_eqViewResult ((r8.1.1.1, (((r8.1.1.2.1, (r8.1.1.2.2.1, (r8.1.1.2.2.2.1, (r8.1.1.2.2.2.2.1, (r8.1.1.2.2.2.2.2.1, (r8.1.1.2.2.2.2.2.2.1, (r8.1.1.2.2.2.2.2.2.2.1, (r8.1.1.2.2.2.2.2.2.2.2.1, (r8.1.1.2.2.2.2.2.2.2.2.2.1, ()))))))))), (r8.1.1.2.2.2.2.2.2.2.2.2.2.1, (r8.1.1.2.2.2.2.2.2.2.2.2.2.2.1, ()))), ())), (r5.1.1.1, (((r5.1.1.2.1, (r5.1.1.2.2.1, (r5.1.1.2.2.2.1, (r5.1.1.2.2.2.2.1, (r5.1.1.2.2.2.2.2.1, (r5.1.1.2.2.2.2.2.2.1, (r5.1.1.2.2.2.2.2.2.2.1, (r5.1.1.2.2.2.2.2.2.2.2.1, (r5.1.1.2.2.2.2.2.2.2.2.2.1, ()))))))))), (r5.1.1.2.2.2.2.2.2.2.2.2.2.1, (r5.1.1.2.2.2.2.2.2.2.2.2.2.2.1, ()))), ())), ())).bind fun r16 =>
                  if (!r16.1.1) then
                    some ((false, ()), ())
                  else
                    (F_laws_markViewResult ((r8.1.1.1, (r8.1.1.2.1, (r8.1.1.2.2.1, (r8.1.1.2.2.2.1, (r8.1.1.2.2.2.2.1, (r8.1.1.2.2.2.2.2.1, (r8.1.1.2.2.2.2.2.2.1, (r8.1.1.2.2.2.2.2.2.2.1, (r8.1.1.2.2.2.2.2.2.2.2.1, (r8.1.1.2.2.2.2.2.2.2.2.2.1, (r8.1.1.2.2.2.2.2.2.2.2.2.2.1, (r8.1.1.2.2.2.2.2.2.2.2.2.2.2.1, ())))))))))))), (1 : Int), ())).bind fun r17 =>
                    if (((r8.1.1.2.1.length == r17.2.1.1.length && (r8.1.1.2.2.2.1.length == r17.2.1.2.1.length && (r8.1.1.2.2.2.2.2.2.2.2.1.length == r17.2.1.2.2.1.length && (r8.1.1.2.2.2.2.2.2.2.2.2.1.length == r17.2.1.2.2.2.1.length && (r8.1.1.2.2.2.2.2.2.2.2.2.2.1.length == r17.2.1.2.2.2.2.1.length && (r8.1.1.2.2.2.2.2.2.2.2.2.2.2.1.length == r17.2.1.2.2.2.2.2.1.length && true)))))) && true) && true) = true then
                      (F_laws_heldViewResult ((r8.1.1.1, (((r17.2.1.1, (r8.1.1.2.2.1, (r17.2.1.2.1, (r8.1.1.2.2.2.2.1, (r8.1.1.2.2.2.2.2.1, (r8.1.1.2.2.2.2.2.2.1, (r8.1.1.2.2.2.2.2.2.2.1, (r17.2.1.2.2.1, (r17.2.1.2.2.2.1, ()))))))))), (r17.2.1.2.2.2.2.1, (r17.2.1.2.2.2.2.2.1, ()))), ())), (1 : Int), ())).bind fun r18 =>
                      if (ltI r18.1.1 (0 : Int)) then
                        some ((false, ()), ())
                      else
                        if (r18.1.1 != r17.1.1) then
                          some ((false, ()), ())
                        else
                          (F_laws_toPolicy (x.1, ())).bind fun r19 =>
                          (F_laws_toSolo (x.2.1, ())).bind fun r20 =>
                          (F_impl_SoloView ((r19.1.1.1, (r19.1.1.2.1, (r19.1.1.2.2.1, (r19.1.1.2.2.2.1, ())))), ((r20.1.1.1, (r20.1.1.2.1, (r20.1.1.2.2.1, (r20.1.1.2.2.2.1, (r20.1.1.2.2.2.2.1, (r20.1.1.2.2.2.2.2.1, (r20.1.1.2.2.2.2.2.2.1, (r20.1.1.2.2.2.2.2.2.2.1, (r20.1.1.2.2.2.2.2.2.2.2.1, ()))))))))), (r20.1.1.2.2.2.2.2.2.2.2.2.1, (r20.1.1.2.2.2.2.2.2.2.2.2.2.1, ()))), x.2.2.1, ())).bind fun r21 =>
                          (F_laws_eqViewResult ((r21.1.1.1, (((r21.1.1.2.1, (r21.1.1.2.2.1, (r21.1.1.2.2.2.1, (r21.1.1.2.2.2.2.1, (r21.1.1.2.2.2.2.2.1, (r21.1.1.2.2.2.2.2.2.1, (r21.1.1.2.2.2.2.2.2.2.1, (r21.1.1.2.2.2.2.2.2.2.2.1, (r21.1.1.2.2.2.2.2.2.2.2.2.1, ()))))))))), (r21.1.1.2.2.2.2.2.2.2.2.2.2.1, (r21.1.1.2.2.2.2.2.2.2.2.2.2.2.1, ()))), ())), (r5.1.1.1, (((r5.1.1.2.1, (r5.1.1.2.2.1, (r5.1.1.2.2.2.1, (r5.1.1.2.2.2.2.1, (r5.1.1.2.2.2.2.2.1, (r5.1.1.2.2.2.2.2.2.1, (r5.1.1.2.2.2.2.2.2.2.1, (r5.1.1.2.2.2.2.2.2.2.2.1, (r5.1.1.2.2.2.2.2.2.2.2.2.1, ()))))))))), (r5.1.1.2.2.2.2.2.2.2.2.2.2.1, (r5.1.1.2.2.2.2.2.2.2.2.2.2.2.1, ()))), ())), ())).bind fun r22 =>
                          if (!r22.1.1) then
                            some ((false, ()), ())
                          else
                            (F_laws_heldViewResult ((r8.1.1.1, (((r17.2.1.1, (r8.1.1.2.2.1, (r17.2.1.2.1, (r8.1.1.2.2.2.2.1, (r8.1.1.2.2.2.2.2.1, (r8.1.1.2.2.2.2.2.2.1, (r8.1.1.2.2.2.2.2.2.2.1, (r17.2.1.2.2.1, (r17.2.1.2.2.2.1, ()))))))))), (r17.2.1.2.2.2.2.1, (r17.2.1.2.2.2.2.2.1, ()))), ())), (1 : Int), ())).bind fun r23 =>
                            if (ltI r23.1.1 (0 : Int)) then
                              some ((false, ()), ())
                            else
                              if (r23.1.1 != r17.1.1) then
                                some ((false, ()), ())
                              else
                                some ((true, ()), ())
                    else none
                else
                  some ((false, ()), ())
              else none
            else none
abbrev C_laws_FnExactSoloView : Con := ⟨P_laws_FnExactSoloView, R_laws_FnExactSoloView, F_laws_FnExactSoloView, false⟩
abbrev G_laws_FnExactSoloView : Env := [(18, C_laws_szPolicy), (21, C_laws_toPolicy), (25, C_laws_eqPolicy), (27, C_laws_markPolicy), (36, C_laws_szSolo), (37, C_spec_SoloView), (38, C_laws_toSolo), (39, C_impl_SoloView), (40, C_laws_eqViewResult), (41, C_laws_eqSolo), (42, C_laws_markSolo), (43, C_laws_markViewResult), (44, C_laws_heldViewResult)]
theorem g_laws_FnExactSoloView : EnvOk Tryz.prog G_laws_FnExactSoloView := (env_cons s_laws_szPolicy (env_cons s_laws_toPolicy (env_cons s_laws_eqPolicy (env_cons s_laws_markPolicy (env_cons s_laws_szSolo (env_cons s_spec_SoloView (env_cons s_laws_toSolo (env_cons s_impl_SoloView (env_cons s_laws_eqViewResult (env_cons s_laws_eqSolo (env_cons s_laws_markSolo (env_cons s_laws_markViewResult (env_cons s_laws_heldViewResult env_nil)))))))))))))
theorem r_laws_FnExactSoloView (x) : runFn T G_laws_FnExactSoloView [] Tryz.f6 P_laws_FnExactSoloView R_laws_FnExactSoloView x = F_laws_FnExactSoloView x := by kernel_rfl
theorem s_laws_FnExactSoloView : CallsOk Tryz.prog 6 C_laws_FnExactSoloView :=
  fn_calls (L := []) hT g_laws_FnExactSoloView Tryz.f6 (by kernel_rfl) (by kernel_rfl) (by kernel_rfl) (plain_ok (by kernel_rfl)) r_laws_FnExactSoloView
theorem q_laws_FnExactSoloView : Sound Tryz.prog 6 C_laws_FnExactSoloView :=
  fn_snd (L := []) hT g_laws_FnExactSoloView Tryz.f6 (by kernel_rfl) (by kernel_rfl) (plain_ok (by kernel_rfl)) r_laws_FnExactSoloView
end Go.Proofs.YtimbcpeilkaahaaGreat
