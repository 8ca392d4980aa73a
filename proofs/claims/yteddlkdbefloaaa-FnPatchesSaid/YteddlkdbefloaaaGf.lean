/- The functions of the laws, each as a plain function of data (F), and that the program's text does what F says. Printed by a program (wip/tools/gen.py). -/
import Derived.Test.YteddlkdbefloaaaGe
namespace Go.Proofs.Yteddlkdbefloaaa
open Go Go.RowKit S Go.Proofs
set_option maxRecDepth 100000
set_option linter.unusedVariables false
/-! laws.szHartS -/
abbrev P_laws_szHartS : List PK := [.val Y81, .val YI]
abbrev R_laws_szHartS : List VK := [.s (.dat YI)]
abbrev i_laws_szHartS_5 : Shp := { slots := [(0, .s (.dat Y81)), (1, .s (.dat YI)), (5, .s (.dat YI))], boxes := [], rows := [] }
abbrev o_laws_szHartS_5 : List (Ex × Shp) := [(.exit 0, { slots := [(1, .s (.dat YI))], boxes := [], rows := [] }), (.ret, { slots := [(4, .s (.dat YI))], boxes := [], rows := [] })]
def l_laws_szHartS_5 (rec : i_laws_szHartS_5.den → Option (denO o_laws_szHartS_5)) (u5 : i_laws_szHartS_5.den) : Option (denO o_laws_szHartS_5) :=
  let v5 := ((u5.1.1.length : Nat) : Int)
  if (ltI u5.1.2.2.1 v5) then
    if 0 ≤ u5.1.2.2.1 then
      ((u5.1.1)[(u5.1.2.2.1).toNat]?).bind fun y6 =>
      (F_laws_szHart (y6, u5.1.2.1, ())).bind fun r7 =>
      if (ltI r7.1.1 (0 : Int)) then
        some (.inr (.inl (((-1 : Int), ()), ((), ()))))
      else
        let v8 := (IntKind.i64.wrap (u5.1.2.2.1 + (1 : Int)))
        rec ((u5.1.1, (r7.1.1, (v8, ()))), ((), ()))
    else none
  else
    some (.inl ((u5.1.2.1, ()), ((), ())))
def L_laws_szHartS_5 (x : i_laws_szHartS_5.den) : Option (denO o_laws_szHartS_5) := iterF l_laws_szHartS_5 lots x
def F_laws_szHartS (x : denP P_laws_szHartS) : Option (denV R_laws_szHartS × denQ P_laws_szHartS) :=
  let v1 := ((x.1.length : Nat) : Int)
  let v2 := (IntKind.i64.wrap (x.2.1 - v1))
  if (ltI v2 (0 : Int)) then
    some (((-1 : Int), ()), ())
  else
    (L_laws_szHartS_5 ((x.1, (v2, ((0 : Int), ()))), ((), ()))).bind fun z9 =>
    match z9 with
    | .inl x10 =>
      some ((x10.1.1, ()), ())
    | .inr z9_ =>
      match z9_ with
      | .inl x11 =>
        some ((x11.1.1, ()), ())
      | .inr z9__ =>
        none
abbrev C_laws_szHartS : Con := ⟨P_laws_szHartS, R_laws_szHartS, F_laws_szHartS, false⟩
abbrev G_laws_szHartS : Env := [(67, C_laws_szHart)]
theorem g_laws_szHartS : EnvOk Try.prog G_laws_szHartS := (env_cons s_laws_szHart env_nil)
abbrev c_laws_szHartS_5 : Cut := ⟨i_laws_szHartS_5, o_laws_szHartS_5, fun x => iterF l_laws_szHartS_5 lots x⟩
theorem t_laws_szHartS_5 (rec x) : run T G_laws_szHartS [] (nav Try.f105 [1, 1, 1, 0, 1, 0, 0]) (mk 27 i_laws_szHartS_5 x) (loopK i_laws_szHartS_5 o_laws_szHartS_5 rec) = l_laws_szHartS_5 rec x := by kernel_rfl
theorem k_laws_szHartS_5 : CutOk Try.prog 27 (.loop (nav Try.f105 [1, 1, 1, 0, 1, 0, 0])) c_laws_szHartS_5 :=
  loop_cut (L := []) hT g_laws_szHartS t_laws_szHartS_5 (plain_ok (by kernel_rfl)) _
theorem r_laws_szHartS (x) : runFn T G_laws_szHartS [(5, c_laws_szHartS_5)] Try.f105 P_laws_szHartS R_laws_szHartS x = F_laws_szHartS x := by kernel_rfl
theorem s_laws_szHartS : CallsOk Try.prog 105 C_laws_szHartS :=
  fn_calls (L := [(5, c_laws_szHartS_5)]) hT g_laws_szHartS Try.f105 (by kernel_rfl) (by kernel_rfl) (by kernel_rfl) (seq_ok (plain_ok (by kernel_rfl)) (seq_ok (plain_ok (by kernel_rfl)) (seq_ok (plain_ok (by kernel_rfl)) (seq_ok (seq_ok (plain_ok (by kernel_rfl)) (block_ok (by kernel_rfl) (loop_ok (by kernel_rfl) k_laws_szHartS_5))) (plain_ok (by kernel_rfl)))))) r_laws_szHartS
/-! laws.szHost -/
abbrev P_laws_szHost : List PK := [.val Y82, .val YI]
abbrev R_laws_szHost : List VK := [.s (.dat YI)]
def F_laws_szHost (x : denP P_laws_szHost) : Option (denV R_laws_szHost × denQ P_laws_szHost) :=
  (F_laws_szPolicy (x.1.1, x.2.1, ())).bind fun r1 =>
  if (ltI r1.1.1 (0 : Int)) then
    some (((-1 : Int), ()), ())
  else
    (F_laws_szInt64S (x.1.2.1, r1.1.1, ())).bind fun r2 =>
    if (ltI r2.1.1 (0 : Int)) then
      some (((-1 : Int), ()), ())
    else
      (F_laws_szHartS (x.1.2.2.1, r2.1.1, ())).bind fun r3 =>
      if (ltI r3.1.1 (0 : Int)) then
        some (((-1 : Int), ()), ())
      else
        some ((r3.1.1, ()), ())
abbrev C_laws_szHost : Con := ⟨P_laws_szHost, R_laws_szHost, F_laws_szHost, false⟩
abbrev G_laws_szHost : Env := [(43, C_laws_szPolicy), (68, C_laws_szInt64S), (105, C_laws_szHartS)]
theorem g_laws_szHost : EnvOk Try.prog G_laws_szHost := (env_cons s_laws_szPolicy (env_cons s_laws_szInt64S (env_cons s_laws_szHartS env_nil)))
theorem r_laws_szHost (x) : runFn T G_laws_szHost [] Try.f46 P_laws_szHost R_laws_szHost x = F_laws_szHost x := by kernel_rfl
theorem s_laws_szHost : CallsOk Try.prog 46 C_laws_szHost :=
  fn_calls (L := []) hT g_laws_szHost Try.f46 (by kernel_rfl) (by kernel_rfl) (by kernel_rfl) (plain_ok (by kernel_rfl)) r_laws_szHost
/-! laws.toHartS -/
abbrev P_laws_toHartS : List PK := [.val Y81]
abbrev R_laws_toHartS : List VK := [.s (.own 43 Y37)]
abbrev i_laws_toHartS_3 : Shp := { slots := [(0, .s (.dat Y81)), (3, .s (.own 43 Y37)), (4, .s (.dat YI))], boxes := [], rows := [] }
abbrev o_laws_toHartS_3 : List (Ex × Shp) := [(.exit 0, { slots := [(3, .s (.own 43 Y37))], boxes := [], rows := [] })]
def l_laws_toHartS_3 (rec : i_laws_toHartS_3.den → Option (denO o_laws_toHartS_3)) (u3 : i_laws_toHartS_3.den) : Option (denO o_laws_toHartS_3) :=
  let v5 := ((u3.1.1.length : Nat) : Int)
  if (ltI u3.1.2.2.1 v5) then
    if 0 ≤ u3.1.2.2.1 then
      ((u3.1.1)[(u3.1.2.2.1).toNat]?).bind fun y6 =>
      (F_laws_toHart (y6, ())).bind fun r7 =>
      if 0 ≤ u3.1.2.2.1 ∧ u3.1.2.2.1 < ((u3.1.2.1.length : Nat) : Int) then
        ((u3.1.2.1)[(u3.1.2.2.1).toNat]?).bind fun y8 =>
        let v9 := (u3.1.2.1.set (u3.1.2.2.1).toNat (r7.1.1.1, (r7.1.1.2.1, (r7.1.1.2.2.1, (r7.1.1.2.2.2.1, (r7.1.1.2.2.2.2.1, (r7.1.1.2.2.2.2.2.1, (r7.1.1.2.2.2.2.2.2.1, (r7.1.1.2.2.2.2.2.2.2.1, (r7.1.1.2.2.2.2.2.2.2.2.1, ()))))))))))
        let v10 := (IntKind.i64.wrap (u3.1.2.2.1 + (1 : Int)))
        rec ((u3.1.1, (v9, (v10, ()))), ((), ()))
      else none
    else none
  else
    some (.inl ((u3.1.2.1, ()), ((), ())))
def L_laws_toHartS_3 (x : i_laws_toHartS_3.den) : Option (denO o_laws_toHartS_3) := iterF l_laws_toHartS_3 lots x
def F_laws_toHartS (x : denP P_laws_toHartS) : Option (denV R_laws_toHartS × denQ P_laws_toHartS) :=
  let v1 := ((x.1.length : Nat) : Int)
  if v1 = v1 ∧ 0 ≤ v1 ∧ v1 * 120 ≤ 140737488355328 ∧ v1 ≤ 9223372036854775807 then
    (L_laws_toHartS_3 ((x.1, ((List.replicate (v1).toNat (zeroD Y37)), ((0 : Int), ()))), ((), ()))).bind fun z11 =>
    match z11 with
    | .inl x12 =>
      some ((x12.1.1, ()), ())
    | .inr z11_ =>
      none
  else none
abbrev C_laws_toHartS : Con := ⟨P_laws_toHartS, R_laws_toHartS, F_laws_toHartS, false⟩
abbrev G_laws_toHartS : Env := [(71, C_laws_toHart)]
theorem g_laws_toHartS : EnvOk Try.prog G_laws_toHartS := (env_cons s_laws_toHart env_nil)
abbrev c_laws_toHartS_3 : Cut := ⟨i_laws_toHartS_3, o_laws_toHartS_3, fun x => iterF l_laws_toHartS_3 lots x⟩
theorem t_laws_toHartS_3 (rec x) : run T G_laws_toHartS [] (nav Try.f107 [1, 1, 0, 1, 0, 0]) (mk 23 i_laws_toHartS_3 x) (loopK i_laws_toHartS_3 o_laws_toHartS_3 rec) = l_laws_toHartS_3 rec x := by kernel_rfl
theorem k_laws_toHartS_3 : CutOk Try.prog 23 (.loop (nav Try.f107 [1, 1, 0, 1, 0, 0])) c_laws_toHartS_3 :=
  loop_cut (L := []) hT g_laws_toHartS t_laws_toHartS_3 (plain_ok (by kernel_rfl)) _
theorem r_laws_toHartS (x) : runFn T G_laws_toHartS [(3, c_laws_toHartS_3)] Try.f107 P_laws_toHartS R_laws_toHartS x = F_laws_toHartS x := by kernel_rfl
theorem s_laws_toHartS : CallsOk Try.prog 107 C_laws_toHartS :=
  fn_calls (L := [(3, c_laws_toHartS_3)]) hT g_laws_toHartS Try.f107 (by kernel_rfl) (by kernel_rfl) (by kernel_rfl) (seq_ok (plain_ok (by kernel_rfl)) (seq_ok (plain_ok (by kernel_rfl)) (seq_ok (seq_ok (plain_ok (by kernel_rfl)) (block_ok (by kernel_rfl) (loop_ok (by kernel_rfl) k_laws_toHartS_3))) (plain_ok (by kernel_rfl))))) r_laws_toHartS
/-! laws.toHost -/
abbrev P_laws_toHost : List PK := [.val Y82]
abbrev R_laws_toHost : List VK := [.g [.own 22 Y22, .own 169 Y168, .own 172 Y23, .own 68 Y23, .own 2 YI, .own 43 Y37, .dat YI, .dat YI, .dat YI]]
def F_laws_toHost (x : denP P_laws_toHost) : Option (denV R_laws_toHost × denQ P_laws_toHost) :=
  (F_laws_toPolicy (x.1.1, ())).bind fun r1 =>
  (F_laws_toInt64S (x.1.2.1, ())).bind fun r2 =>
  (F_laws_toHartS (x.1.2.2.1, ())).bind fun r3 =>
  some (((r1.1.1.1, (r1.1.1.2.1, (r1.1.1.2.2.1, (r1.1.1.2.2.2.1, (r2.1.1, (r3.1.1, (x.1.2.2.2.1, (x.1.2.2.2.2.1, (x.1.2.2.2.2.2.1, ()))))))))), ()), ())
abbrev C_laws_toHost : Con := ⟨P_laws_toHost, R_laws_toHost, F_laws_toHost, false⟩
abbrev G_laws_toHost : Env := [(15, C_laws_toInt64S), (44, C_laws_toPolicy), (107, C_laws_toHartS)]
theorem g_laws_toHost : EnvOk Try.prog G_laws_toHost := (env_cons s_laws_toInt64S (env_cons s_laws_toPolicy (env_cons s_laws_toHartS env_nil)))
theorem r_laws_toHost (x) : runFn T G_laws_toHost [] Try.f48 P_laws_toHost R_laws_toHost x = F_laws_toHost x := by kernel_rfl
theorem s_laws_toHost : CallsOk Try.prog 48 C_laws_toHost :=
  fn_calls (L := []) hT g_laws_toHost Try.f48 (by kernel_rfl) (by kernel_rfl) (by kernel_rfl) (plain_ok (by kernel_rfl)) r_laws_toHost
/-! spec.l7Whole -/
abbrev P_spec_l7Whole : List PK := [.val Y22]
abbrev R_spec_l7Whole : List VK := [.s (.dat .bool)]
def F_spec_l7Whole (x : denP P_spec_l7Whole) : Option (denV R_spec_l7Whole × denQ P_spec_l7Whole) :=
  (F_spec_MemoryFault (x.1, ())).bind fun r1 =>
  if (r1.1.1 == (0 : Int)) = true then
    let v2 := ((x.1.length : Nat) : Int)
    some (((v2 == (192 : Int)), ()), ())
  else
    some ((false, ()), ())
abbrev C_spec_l7Whole : Con := ⟨P_spec_l7Whole, R_spec_l7Whole, F_spec_l7Whole, false⟩
abbrev G_spec_l7Whole : Env := [(58, C_spec_MemoryFault)]
theorem g_spec_l7Whole : EnvOk Try.prog G_spec_l7Whole := (env_cons s_spec_MemoryFault env_nil)
theorem r_spec_l7Whole (x) : runFn T G_spec_l7Whole [] Try.f151 P_spec_l7Whole R_spec_l7Whole x = F_spec_l7Whole x := by kernel_rfl
theorem s_spec_l7Whole : CallsOk Try.prog 151 C_spec_l7Whole :=
  fn_calls (L := []) hT g_spec_l7Whole Try.f151 (by kernel_rfl) (by kernel_rfl) (by kernel_rfl) (plain_ok (by kernel_rfl)) r_spec_l7Whole
/-! spec.l8Fault -/
abbrev P_spec_l8Fault : List PK := [.ptr Y37]
abbrev R_spec_l8Fault : List VK := [.s (.dat YI)]
def F_spec_l8Fault (x : denP P_spec_l8Fault) : Option (denV R_spec_l8Fault × denQ P_spec_l8Fault) :=
  let v1 := ((x.1.1.length : Nat) : Int)
  if (v1 != (16 : Int)) = false then
    let v2 := ((x.1.2.2.1.length : Nat) : Int)
    if (v2 != (11 : Int)) = false then
      ((x.1.1)[((0 : Int)).toNat]?).bind fun y3 =>
      if (y3 != (0 : Int)) then
        some (((1 : Int), ()), ())
      else
        (F_spec_l8All (x.1.1, ())).bind fun r4 =>
        if (!r4.1.1) = false then
          (F_spec_l8Word (x.1.2.1, ())).bind fun r5 =>
          if (!r5.1.1) = false then
            (F_spec_l8All (x.1.2.2.1, ())).bind fun r6 =>
            if (!r6.1.1) = false then
              (F_spec_l8All (x.1.2.2.2.2.2.2.2.1, ())).bind fun r7 =>
              if (!r7.1.1) = false then
                (F_spec_l8All (x.1.2.2.2.2.2.2.2.2.1, ())).bind fun r8 =>
                if (!r8.1.1) then
                  some (((3 : Int), ()), ())
                else
                  let v9 := ((x.1.2.2.2.2.2.2.2.1.length : Nat) : Int)
                  if (ltI (40 : Int) v9) = false then
                    let v10 := ((x.1.2.2.2.2.2.2.2.2.1.length : Nat) : Int)
                    if (ltI (40 : Int) v10) then
                      some (((2 : Int), ()), ())
                    else
                      (F_spec_l1In (x.1.2.2.2.2.2.2.1, (0 : Int), (1000000000 : Int), ())).bind fun r11 =>
                      if (!r11.1.1) then
                        some (((3 : Int), ()), ())
                      else
                        ((x.1.2.2.1)[((0 : Int)).toNat]?).bind fun y12 =>
                        if (ltI (3 : Int) y12) = false then
                          ((x.1.2.2.1)[((7 : Int)).toNat]?).bind fun y13 =>
                          if (ltI (7 : Int) y13) = false then
                            ((x.1.2.2.1)[((10 : Int)).toNat]?).bind fun y14 =>
                            if (ltI (8 : Int) y14) = false then
                              ((x.1.2.2.1)[((6 : Int)).toNat]?).bind fun y15 =>
                              if (y15 != (0 : Int)) = false then
                                ((x.1.2.2.1)[((8 : Int)).toNat]?).bind fun y16 =>
                                if (y16 != (0 : Int)) then
                                  some (((1 : Int), ()), ())
                                else
                                  some (((0 : Int), ()), ())
                              else
                                some (((1 : Int), ()), ())
                            else
                              some (((1 : Int), ()), ())
                          else
                            some (((1 : Int), ()), ())
                        else
                          some (((1 : Int), ()), ())
                  else
                    some (((2 : Int), ()), ())
              else
                some (((3 : Int), ()), ())
            else
              some (((3 : Int), ()), ())
          else
            some (((3 : Int), ()), ())
        else
          some (((3 : Int), ()), ())
    else
      some (((1 : Int), ()), ())
  else
    some (((1 : Int), ()), ())
abbrev C_spec_l8Fault : Con := ⟨P_spec_l8Fault, R_spec_l8Fault, F_spec_l8Fault, false⟩
abbrev G_spec_l8Fault : Env := [(60, C_spec_l1In), (61, C_spec_l8All), (125, C_spec_l8Word)]
theorem g_spec_l8Fault : EnvOk Try.prog G_spec_l8Fault := (env_cons s_spec_l1In (env_cons s_spec_l8All (env_cons s_spec_l8Word env_nil)))
theorem r_spec_l8Fault (x) : runFn T G_spec_l8Fault [] Try.f152 P_spec_l8Fault R_spec_l8Fault x = F_spec_l8Fault x := by kernel_rfl
theorem s_spec_l8Fault : CallsOk Try.prog 152 C_spec_l8Fault :=
  fn_calls (L := []) hT g_spec_l8Fault Try.f152 (by kernel_rfl) (by kernel_rfl) (by kernel_rfl) (plain_ok (by kernel_rfl)) r_spec_l8Fault
/-! spec.l12Turn -/
abbrev P_spec_l12Turn : List PK := [.ptr Y61, .val YI]
abbrev R_spec_l12Turn : List VK := [.s (.dat YI), .s (.dat YI)]
abbrev i_spec_l12Turn_8 : Shp := { slots := [(0, .s (.pd Y61)), (8, .s (.dat YI)), (9, .s (.dat YI))], boxes := [], rows := [] }
abbrev o_spec_l12Turn_8 : List (Ex × Shp) := [(.exit 2, { slots := [(0, .s (.pd Y61)), (8, .s (.dat YI)), (9, .s (.dat YI))], boxes := [], rows := [] })]
def l_spec_l12Turn_8 (rec : i_spec_l12Turn_8.den → Option (denO o_spec_l12Turn_8)) (u8 : i_spec_l12Turn_8.den) : Option (denO o_spec_l12Turn_8) :=
  if 0 ≤ u8.1.2.2.1 then
    ((u8.1.1.2.2.2.1)[(u8.1.2.2.1).toNat]?).bind fun y11 =>
    if (leI y11.2.1 u8.1.2.1) then
      if 0 ≤ u8.1.2.2.1 then
        ((u8.1.1.2.2.2.1)[(u8.1.2.2.1).toNat]?).bind fun y12 =>
        let v13 := (IntKind.i64.wrap (u8.1.2.1 - y12.2.1))
        let v14 := (IntKind.i64.wrap (u8.1.2.2.1 + (1 : Int)))
        rec ((u8.1.1, (v13, (v14, ()))), ((), ()))
      else none
    else
      some (.inl ((u8.1.1, (u8.1.2.1, (u8.1.2.2.1, ()))), ((), ())))
  else none
def L_spec_l12Turn_8 (x : i_spec_l12Turn_8.den) : Option (denO o_spec_l12Turn_8) := iterF l_spec_l12Turn_8 lots x
abbrev i_spec_l12Turn_3 : Shp := { slots := [(0, .s (.pd Y61)), (1, .s (.dat YI)), (6, .s (.dat YI)), (7, .s (.dat YI))], boxes := [], rows := [] }
abbrev o_spec_l12Turn_3 : List (Ex × Shp) := [(.exit 0, { slots := [(0, .s (.pd Y61)), (1, .s (.dat YI)), (6, .s (.dat YI))], boxes := [], rows := [] })]
def l_spec_l12Turn_3 (rec : i_spec_l12Turn_3.den → Option (denO o_spec_l12Turn_3)) (u3 : i_spec_l12Turn_3.den) : Option (denO o_spec_l12Turn_3) :=
  let v2 := ((u3.1.1.2.2.2.1.length : Nat) : Int)
  if (ltI u3.1.2.2.2.1 v2) then
    if 0 ≤ u3.1.2.2.2.1 then
      ((u3.1.1.2.2.2.1)[(u3.1.2.2.2.1).toNat]?).bind fun y3 =>
      let v4 := (IntKind.i64.wrap (u3.1.2.2.1 + y3.2.1))
      let v5 := (IntKind.i64.wrap (u3.1.2.2.2.1 + (1 : Int)))
      rec ((u3.1.1, (u3.1.2.1, (v4, (v5, ())))), ((), ()))
    else none
  else
    some (.inl ((u3.1.1, (u3.1.2.1, (u3.1.2.2.1, ()))), ((), ())))
def L_spec_l12Turn_3 (x : i_spec_l12Turn_3.den) : Option (denO o_spec_l12Turn_3) := iterF l_spec_l12Turn_3 lots x
def F_spec_l12Turn (x : denP P_spec_l12Turn) : Option (denV R_spec_l12Turn × denQ P_spec_l12Turn) :=
  (L_spec_l12Turn_3 ((x.1, (x.2.1, ((0 : Int), ((0 : Int), ())))), ((), ()))).bind fun z6 =>
  match z6 with
  | .inl x7 =>
    if x7.1.2.2.1 = 0 then none else
    let v8 := ((x7.1.2.1).tmod x7.1.2.2.1)
    (L_spec_l12Turn_8 ((x7.1.1, (v8, ((0 : Int), ()))), ((), ()))).bind fun z15 =>
    match z15 with
    | .inl x16 =>
      if 0 ≤ x16.1.2.2.1 then
        ((x16.1.1.2.2.2.1)[(x16.1.2.2.1).toNat]?).bind fun y17 =>
        let v18 := (IntKind.i64.wrap (y17.2.1 - x16.1.2.1))
        some ((x16.1.2.2.1, v18, ()), ())
      else none
    | .inr z15_ =>
      none
  | .inr z6_ =>
    none
abbrev C_spec_l12Turn : Con := ⟨P_spec_l12Turn, R_spec_l12Turn, F_spec_l12Turn, false⟩
abbrev G_spec_l12Turn : Env := []
theorem g_spec_l12Turn : EnvOk Try.prog G_spec_l12Turn := env_nil
abbrev c_spec_l12Turn_8 : Cut := ⟨i_spec_l12Turn_8, o_spec_l12Turn_8, fun x => iterF l_spec_l12Turn_8 lots x⟩
theorem t_spec_l12Turn_8 (rec x) : run T G_spec_l12Turn [] (nav Try.f153 [1, 1, 1, 1, 1, 0, 0, 0]) (mk 65 i_spec_l12Turn_8 x) (loopK i_spec_l12Turn_8 o_spec_l12Turn_8 rec) = l_spec_l12Turn_8 rec x := by kernel_rfl
theorem k_spec_l12Turn_8 : CutOk Try.prog 65 (.loop (nav Try.f153 [1, 1, 1, 1, 1, 0, 0, 0])) c_spec_l12Turn_8 :=
  loop_cut (L := []) hT g_spec_l12Turn t_spec_l12Turn_8 (plain_ok (by kernel_rfl)) _
abbrev c_spec_l12Turn_3 : Cut := ⟨i_spec_l12Turn_3, o_spec_l12Turn_3, fun x => iterF l_spec_l12Turn_3 lots x⟩
theorem t_spec_l12Turn_3 (rec x) : run T G_spec_l12Turn [] (nav Try.f153 [1, 1, 0, 1, 0, 0]) (mk 65 i_spec_l12Turn_3 x) (loopK i_spec_l12Turn_3 o_spec_l12Turn_3 rec) = l_spec_l12Turn_3 rec x := by kernel_rfl
theorem k_spec_l12Turn_3 : CutOk Try.prog 65 (.loop (nav Try.f153 [1, 1, 0, 1, 0, 0])) c_spec_l12Turn_3 :=
  loop_cut (L := []) hT g_spec_l12Turn t_spec_l12Turn_3 (plain_ok (by kernel_rfl)) _
theorem r_spec_l12Turn (x) : runFn T G_spec_l12Turn [(8, c_spec_l12Turn_8), (3, c_spec_l12Turn_3)] Try.f153 P_spec_l12Turn R_spec_l12Turn x = F_spec_l12Turn x := by kernel_rfl
theorem s_spec_l12Turn : CallsOk Try.prog 153 C_spec_l12Turn :=
  fn_calls (L := [(8, c_spec_l12Turn_8), (3, c_spec_l12Turn_3)]) hT g_spec_l12Turn Try.f153 (by kernel_rfl) (by kernel_rfl) (by kernel_rfl) (seq_ok (plain_ok (by kernel_rfl)) (seq_ok (plain_ok (by kernel_rfl)) (seq_ok (seq_ok (plain_ok (by kernel_rfl)) (block_ok (by kernel_rfl) (loop_ok (by kernel_rfl) k_spec_l12Turn_3))) (seq_ok (plain_ok (by kernel_rfl)) (seq_ok (plain_ok (by kernel_rfl)) (seq_ok (block_ok (by kernel_rfl) (loop_ok (by kernel_rfl) k_spec_l12Turn_8)) (plain_ok (by kernel_rfl)))))))) r_spec_l12Turn
/-! spec.l12Fault -/
abbrev P_spec_l12Fault : List PK := [.ptr Y82]
abbrev R_spec_l12Fault : List VK := [.s (.dat YI)]
abbrev i_spec_l12Fault_7 : Shp := { slots := [(0, .s (.pd Y82)), (4, .s (.dat YI))], boxes := [], rows := [] }
abbrev o_spec_l12Fault_7 : List (Ex × Shp) := [(.exit 0, { slots := [(0, .s (.pd Y82))], boxes := [], rows := [] }), (.ret, { slots := [(2, .s (.dat YI))], boxes := [], rows := [] })]
def l_spec_l12Fault_7 (rec : i_spec_l12Fault_7.den → Option (denO o_spec_l12Fault_7)) (u7 : i_spec_l12Fault_7.den) : Option (denO o_spec_l12Fault_7) :=
  let v7 := ((u7.1.1.2.2.1.length : Nat) : Int)
  if (ltI u7.1.2.1 v7) then
    if 0 ≤ u7.1.2.1 then
      ((u7.1.1.2.2.1)[(u7.1.2.1).toNat]?).bind fun y8 =>
      (F_spec_l8Fault (y8, ())).bind fun r9 =>
      if (r9.1.1 != (0 : Int)) then
        some (.inr (.inl ((r9.1.1, ()), ((), ()))))
      else
        let v10 := (IntKind.i64.wrap (u7.1.2.1 + (1 : Int)))
        rec ((u7.1.1, (v10, ())), ((), ()))
    else none
  else
    some (.inl ((u7.1.1, ()), ((), ())))
def L_spec_l12Fault_7 (x : i_spec_l12Fault_7.den) : Option (denO o_spec_l12Fault_7) := iterF l_spec_l12Fault_7 lots x
def F_spec_l12Fault (x : denP P_spec_l12Fault) : Option (denV R_spec_l12Fault × denQ P_spec_l12Fault) :=
  (F_spec_l6Fault (x.1.1, ())).bind fun r1 =>
  if (r1.1.1 != (0 : Int)) then
    some ((r1.1.1, ()), ())
  else
    (F_spec_l7Whole (x.1.2.1, ())).bind fun r2 =>
    if (!r2.1.1) = false then
      let v3 := ((x.1.2.2.1.length : Nat) : Int)
      let v4 := ((x.1.1.1.length : Nat) : Int)
      if (v3 != v4) then
        some (((1 : Int), ()), ())
      else
        (L_spec_l12Fault_7 ((x.1, ((0 : Int), ())), ((), ()))).bind fun z11 =>
        match z11 with
        | .inl x12 =>
          (F_spec_l1In (x12.1.1.2.2.2.2.2.1, (0 : Int), (1000000 : Int), ())).bind fun r13 =>
          if (!r13.1.1) then
            some (((3 : Int), ()), ())
          else
            (F_spec_l12Turn (x12.1.1.1, x12.1.1.2.2.2.2.2.1, ())).bind fun r14 =>
            if (x12.1.1.2.2.2.1 != r14.1.1) = false then
              if (x12.1.1.2.2.2.2.1 != r14.1.2.1) then
                some (((1 : Int), ()), ())
              else
                some (((0 : Int), ()), ())
            else
              some (((1 : Int), ()), ())
        | .inr z11_ =>
          match z11_ with
          | .inl x15 =>
            some ((x15.1.1, ()), ())
          | .inr z11__ =>
            none
    else
      some (((1 : Int), ()), ())
abbrev C_spec_l12Fault : Con := ⟨P_spec_l12Fault, R_spec_l12Fault, F_spec_l12Fault, false⟩
abbrev G_spec_l12Fault : Env := [(60, C_spec_l1In), (139, C_spec_l6Fault), (151, C_spec_l7Whole), (152, C_spec_l8Fault), (153, C_spec_l12Turn)]
theorem g_spec_l12Fault : EnvOk Try.prog G_spec_l12Fault := (env_cons s_spec_l1In (env_cons s_spec_l6Fault (env_cons s_spec_l7Whole (env_cons s_spec_l8Fault (env_cons s_spec_l12Turn env_nil)))))
abbrev c_spec_l12Fault_7 : Cut := ⟨i_spec_l12Fault_7, o_spec_l12Fault_7, fun x => iterF l_spec_l12Fault_7 lots x⟩
theorem t_spec_l12Fault_7 (rec x) : run T G_spec_l12Fault [] (nav Try.f106 [1, 1, 1, 0, 1, 0, 0]) (mk 85 i_spec_l12Fault_7 x) (loopK i_spec_l12Fault_7 o_spec_l12Fault_7 rec) = l_spec_l12Fault_7 rec x := by kernel_rfl
theorem k_spec_l12Fault_7 : CutOk Try.prog 85 (.loop (nav Try.f106 [1, 1, 1, 0, 1, 0, 0])) c_spec_l12Fault_7 :=
  loop_cut (L := []) hT g_spec_l12Fault t_spec_l12Fault_7 (plain_ok (by kernel_rfl)) _
theorem r_spec_l12Fault (x) : runFn T G_spec_l12Fault [(7, c_spec_l12Fault_7)] Try.f106 P_spec_l12Fault R_spec_l12Fault x = F_spec_l12Fault x := by kernel_rfl
theorem s_spec_l12Fault : CallsOk Try.prog 106 C_spec_l12Fault :=
  fn_calls (L := [(7, c_spec_l12Fault_7)]) hT g_spec_l12Fault Try.f106 (by kernel_rfl) (by kernel_rfl) (by kernel_rfl) (seq_ok (plain_ok (by kernel_rfl)) (seq_ok (plain_ok (by kernel_rfl)) (seq_ok (plain_ok (by kernel_rfl)) (seq_ok (seq_ok (plain_ok (by kernel_rfl)) (block_ok (by kernel_rfl) (loop_ok (by kernel_rfl) k_spec_l12Fault_7))) (plain_ok (by kernel_rfl)))))) r_spec_l12Fault
/-! spec.HostFault -/
abbrev P_spec_HostFault : List PK := [.val Y82]
abbrev R_spec_HostFault : List VK := [.s (.dat YI)]
def F_spec_HostFault (x : denP P_spec_HostFault) : Option (denV R_spec_HostFault × denQ P_spec_HostFault) :=
  (F_spec_l12Fault (x.1, ())).bind fun r1 =>
  some ((r1.1.1, ()), ())
abbrev C_spec_HostFault : Con := ⟨P_spec_HostFault, R_spec_HostFault, F_spec_HostFault, false⟩
abbrev G_spec_HostFault : Env := [(106, C_spec_l12Fault)]
theorem g_spec_HostFault : EnvOk Try.prog G_spec_HostFault := (env_cons s_spec_l12Fault env_nil)
theorem r_spec_HostFault (x) : runFn T G_spec_HostFault [] Try.f47 P_spec_HostFault R_spec_HostFault x = F_spec_HostFault x := by kernel_rfl
theorem s_spec_HostFault : CallsOk Try.prog 47 C_spec_HostFault :=
  fn_calls (L := []) hT g_spec_HostFault Try.f47 (by kernel_rfl) (by kernel_rfl) (by kernel_rfl) (plain_ok (by kernel_rfl)) r_spec_HostFault
/-! impl.isWhole -/
abbrev P_impl_isWhole : List PK := [.val Y22]
abbrev R_impl_isWhole : List VK := [.s (.dat .bool)]
def F_impl_isWhole (x : denP P_impl_isWhole) : Option (denV R_impl_isWhole × denQ P_impl_isWhole) :=
  (F_impl_MemoryFault (x.1, ())).bind fun r1 =>
  if (r1.1.1 == (0 : Int)) = true then
    let v2 := ((x.1.length : Nat) : Int)
    some (((v2 == (192 : Int)), ()), ())
  else
    some ((false, ()), ())
abbrev C_impl_isWhole : Con := ⟨P_impl_isWhole, R_impl_isWhole, F_impl_isWhole, false⟩
abbrev G_impl_isWhole : Env := [(59, C_impl_MemoryFault)]
theorem g_impl_isWhole : EnvOk Try.prog G_impl_isWhole := (env_cons s_impl_MemoryFault env_nil)
theorem r_impl_isWhole (x) : runFn T G_impl_isWhole [] Try.f108 P_impl_isWhole R_impl_isWhole x = F_impl_isWhole x := by kernel_rfl
theorem s_impl_isWhole : CallsOk Try.prog 108 C_impl_isWhole :=
  fn_calls (L := []) hT g_impl_isWhole Try.f108 (by kernel_rfl) (by kernel_rfl) (by kernel_rfl) (plain_ok (by kernel_rfl)) r_impl_isWhole
/-! impl.HartFault -/
abbrev P_impl_HartFault : List PK := [.val Y37]
abbrev R_impl_HartFault : List VK := [.s (.dat YI)]
def F_impl_HartFault (x : denP P_impl_HartFault) : Option (denV R_impl_HartFault × denQ P_impl_HartFault) :=
  let v1 := ((x.1.1.length : Nat) : Int)
  if (v1 != (16 : Int)) = false then
    let v2 := ((x.1.2.2.1.length : Nat) : Int)
    if (v2 != (11 : Int)) = false then
      ((x.1.1)[((0 : Int)).toNat]?).bind fun y3 =>
      if (y3 != (0 : Int)) then
        some (((1 : Int), ()), ())
      else
        (F_impl_areWords (x.1.1, ())).bind fun r4 =>
        if (!r4.1.1) = false then
          (F_impl_isWord (x.1.2.1, ())).bind fun r5 =>
          if (!r5.1.1) = false then
            (F_impl_areWords (x.1.2.2.1, ())).bind fun r6 =>
            if (!r6.1.1) = false then
              (F_impl_areWords (x.1.2.2.2.2.2.2.2.1, ())).bind fun r7 =>
              if (!r7.1.1) = false then
                (F_impl_areWords (x.1.2.2.2.2.2.2.2.2.1, ())).bind fun r8 =>
                if (!r8.1.1) then
                  some (((3 : Int), ()), ())
                else
                  let v9 := ((x.1.2.2.2.2.2.2.2.1.length : Nat) : Int)
                  if (ltI (40 : Int) v9) = false then
                    let v10 := ((x.1.2.2.2.2.2.2.2.2.1.length : Nat) : Int)
                    if (ltI (40 : Int) v10) then
                      some (((2 : Int), ()), ())
                    else
                      (F_impl_within (x.1.2.2.2.2.2.2.1, (0 : Int), (1000000000 : Int), ())).bind fun r11 =>
                      if (!r11.1.1) then
                        some (((3 : Int), ()), ())
                      else
                        ((x.1.2.2.1)[((0 : Int)).toNat]?).bind fun y12 =>
                        if (ltI (3 : Int) y12) = false then
                          ((x.1.2.2.1)[((7 : Int)).toNat]?).bind fun y13 =>
                          if (ltI (7 : Int) y13) = false then
                            ((x.1.2.2.1)[((10 : Int)).toNat]?).bind fun y14 =>
                            if (ltI (8 : Int) y14) = false then
                              ((x.1.2.2.1)[((6 : Int)).toNat]?).bind fun y15 =>
                              if (y15 != (0 : Int)) = false then
                                ((x.1.2.2.1)[((8 : Int)).toNat]?).bind fun y16 =>
                                if (y16 != (0 : Int)) then
                                  some (((1 : Int), ()), ())
                                else
                                  some (((0 : Int), ()), ())
                              else
                                some (((1 : Int), ()), ())
                            else
                              some (((1 : Int), ()), ())
                          else
                            some (((1 : Int), ()), ())
                        else
                          some (((1 : Int), ()), ())
                  else
                    some (((2 : Int), ()), ())
              else
                some (((3 : Int), ()), ())
            else
              some (((3 : Int), ()), ())
          else
            some (((3 : Int), ()), ())
        else
          some (((3 : Int), ()), ())
    else
      some (((1 : Int), ()), ())
  else
    some (((1 : Int), ()), ())
abbrev C_impl_HartFault : Con := ⟨P_impl_HartFault, R_impl_HartFault, F_impl_HartFault, false⟩
abbrev G_impl_HartFault : Env := [(63, C_impl_within), (64, C_impl_areWords), (128, C_impl_isWord)]
theorem g_impl_HartFault : EnvOk Try.prog G_impl_HartFault := (env_cons s_impl_within (env_cons s_impl_areWords (env_cons s_impl_isWord env_nil)))
theorem r_impl_HartFault (x) : runFn T G_impl_HartFault [] Try.f109 P_impl_HartFault R_impl_HartFault x = F_impl_HartFault x := by kernel_rfl
theorem s_impl_HartFault : CallsOk Try.prog 109 C_impl_HartFault :=
  fn_calls (L := []) hT g_impl_HartFault Try.f109 (by kernel_rfl) (by kernel_rfl) (by kernel_rfl) (plain_ok (by kernel_rfl)) r_impl_HartFault
/-! (*impl.Policy).turnAt -/
abbrev P_impl_Policy_turnAt : List PK := [.ptr Y61, .val YI]
abbrev R_impl_Policy_turnAt : List VK := [.s (.dat YI), .s (.dat YI)]
abbrev i_impl_Policy_turnAt_3 : Shp := { slots := [(0, .s (.pd Y61)), (1, .s (.dat YI)), (6, .s (.dat YI))], boxes := [], rows := [] }
abbrev o_impl_Policy_turnAt_3 : List (Ex × Shp) := [(.exit 0, { slots := [(0, .s (.pd Y61)), (1, .s (.dat YI)), (6, .s (.dat YI))], boxes := [], rows := [] })]
def l_impl_Policy_turnAt_3 (rec : i_impl_Policy_turnAt_3.den → Option (denO o_impl_Policy_turnAt_3)) (u3 : i_impl_Policy_turnAt_3.den) : Option (denO o_impl_Policy_turnAt_3) :=
  if 0 ≤ u3.1.2.2.1 then
    ((u3.1.1.2.2.2.1)[(u3.1.2.2.1).toNat]?).bind fun y5 =>
    if (leI y5.2.1 u3.1.2.1) then
      if 0 ≤ u3.1.2.2.1 then
        ((u3.1.1.2.2.2.1)[(u3.1.2.2.1).toNat]?).bind fun y6 =>
        let v7 := (IntKind.i64.wrap (u3.1.2.1 - y6.2.1))
        let v8 := (IntKind.i64.wrap (u3.1.2.2.1 + (1 : Int)))
        rec ((u3.1.1, (v7, (v8, ()))), ((), ()))
      else none
    else
      some (.inl ((u3.1.1, (u3.1.2.1, (u3.1.2.2.1, ()))), ((), ())))
  else none
def L_impl_Policy_turnAt_3 (x : i_impl_Policy_turnAt_3.den) : Option (denO o_impl_Policy_turnAt_3) := iterF l_impl_Policy_turnAt_3 lots x
def F_impl_Policy_turnAt (x : denP P_impl_Policy_turnAt) : Option (denV R_impl_Policy_turnAt × denQ P_impl_Policy_turnAt) :=
  (F_impl_Policy_stepsOf (x.1, (-1 : Int), ())).bind fun r1 =>
  if r1.1.1 = 0 then none else
  let v2 := ((x.2.1).tmod r1.1.1)
  (L_impl_Policy_turnAt_3 ((x.1, (v2, ((0 : Int), ()))), ((), ()))).bind fun z9 =>
  match z9 with
  | .inl x10 =>
    if 0 ≤ x10.1.2.2.1 then
      ((x10.1.1.2.2.2.1)[(x10.1.2.2.1).toNat]?).bind fun y11 =>
      let v12 := (IntKind.i64.wrap (y11.2.1 - x10.1.2.1))
      some ((x10.1.2.2.1, v12, ()), ())
    else none
  | .inr z9_ =>
    none
abbrev C_impl_Policy_turnAt : Con := ⟨P_impl_Policy_turnAt, R_impl_Policy_turnAt, F_impl_Policy_turnAt, false⟩
abbrev G_impl_Policy_turnAt : Env := [(85, C_impl_Policy_stepsOf)]
theorem g_impl_Policy_turnAt : EnvOk Try.prog G_impl_Policy_turnAt := (env_cons s_impl_Policy_stepsOf env_nil)
abbrev c_impl_Policy_turnAt_3 : Cut := ⟨i_impl_Policy_turnAt_3, o_impl_Policy_turnAt_3, fun x => iterF l_impl_Policy_turnAt_3 lots x⟩
theorem t_impl_Policy_turnAt_3 (rec x) : run T G_impl_Policy_turnAt [] (nav Try.f92 [1, 1, 1, 0, 0, 0]) (mk 44 i_impl_Policy_turnAt_3 x) (loopK i_impl_Policy_turnAt_3 o_impl_Policy_turnAt_3 rec) = l_impl_Policy_turnAt_3 rec x := by kernel_rfl
theorem k_impl_Policy_turnAt_3 : CutOk Try.prog 44 (.loop (nav Try.f92 [1, 1, 1, 0, 0, 0])) c_impl_Policy_turnAt_3 :=
  loop_cut (L := []) hT g_impl_Policy_turnAt t_impl_Policy_turnAt_3 (plain_ok (by kernel_rfl)) _
theorem r_impl_Policy_turnAt (x) : runFn T G_impl_Policy_turnAt [(3, c_impl_Policy_turnAt_3)] Try.f92 P_impl_Policy_turnAt R_impl_Policy_turnAt x = F_impl_Policy_turnAt x := by kernel_rfl
theorem s_impl_Policy_turnAt : CallsOk Try.prog 92 C_impl_Policy_turnAt :=
  fn_calls (L := [(3, c_impl_Policy_turnAt_3)]) hT g_impl_Policy_turnAt Try.f92 (by kernel_rfl) (by kernel_rfl) (by kernel_rfl) (seq_ok (plain_ok (by kernel_rfl)) (seq_ok (plain_ok (by kernel_rfl)) (seq_ok (plain_ok (by kernel_rfl)) (seq_ok (block_ok (by kernel_rfl) (loop_ok (by kernel_rfl) k_impl_Policy_turnAt_3)) (plain_ok (by kernel_rfl)))))) r_impl_Policy_turnAt
/-! impl.HostFault -/
abbrev P_impl_HostFault : List PK := [.val Y82]
abbrev R_impl_HostFault : List VK := [.s (.dat YI)]
abbrev i_impl_HostFault_7 : Shp := { slots := [(1, .s (.ptr 1 0)), (30, .s (.dat Y81)), (31, .s (.dat YI)), (32, .s (.dat YI))], boxes := [(1, [.dat Y57, .dat Y58, .dat Y59, .dat Y59, .dat Y22, .dat Y81, .dat YI, .dat YI, .dat YI])], rows := [] }
abbrev o_impl_HostFault_7 : List (Ex × Shp) := [(.exit 0, { slots := [(1, .s (.ptr 1 0))], boxes := [(1, [.dat Y57, .dat Y58, .dat Y59, .dat Y59, .dat Y22, .dat Y81, .dat YI, .dat YI, .dat YI])], rows := [] }), (.ret, { slots := [(2, .s (.dat YI))], boxes := [], rows := [] })]
def l_impl_HostFault_7 (rec : i_impl_HostFault_7.den → Option (denO o_impl_HostFault_7)) (u7 : i_impl_HostFault_7.den) : Option (denO o_impl_HostFault_7) :=
  if (ltI u7.1.2.2.2.1 u7.1.2.2.1) then
    if 0 ≤ u7.1.2.2.2.1 then
      ((u7.1.2.1)[(u7.1.2.2.2.1).toNat]?).bind fun y8 =>
      (F_impl_HartFault (y8, ())).bind fun r9 =>
      if (r9.1.1 != (0 : Int)) then
        some (.inr (.inl ((r9.1.1, ()), ((), ()))))
      else
        let v10 := (IntKind.i64.wrap (u7.1.2.2.2.1 + (1 : Int)))
        rec (((), (u7.1.2.1, (u7.1.2.2.1, (v10, ())))), (((u7.2.1.1.1, (u7.2.1.1.2.1, (u7.2.1.1.2.2.1, (u7.2.1.1.2.2.2.1, (u7.2.1.1.2.2.2.2.1, (u7.2.1.1.2.2.2.2.2.1, (u7.2.1.1.2.2.2.2.2.2.1, (u7.2.1.1.2.2.2.2.2.2.2.1, (u7.2.1.1.2.2.2.2.2.2.2.2.1, ()))))))))), ()), ()))
    else none
  else
    some (.inl (((), ()), (((u7.2.1.1.1, (u7.2.1.1.2.1, (u7.2.1.1.2.2.1, (u7.2.1.1.2.2.2.1, (u7.2.1.1.2.2.2.2.1, (u7.2.1.1.2.2.2.2.2.1, (u7.2.1.1.2.2.2.2.2.2.1, (u7.2.1.1.2.2.2.2.2.2.2.1, (u7.2.1.1.2.2.2.2.2.2.2.2.1, ()))))))))), ()), ())))
def L_impl_HostFault_7 (x : i_impl_HostFault_7.den) : Option (denO o_impl_HostFault_7) := iterF l_impl_HostFault_7 lots x
def F_impl_HostFault (x : denP P_impl_HostFault) : Option (denV R_impl_HostFault × denQ P_impl_HostFault) :=
  (F_impl_PolicyFault (x.1.1, ())).bind fun r1 =>
  if (r1.1.1 != (0 : Int)) then
    some ((r1.1.1, ()), ())
  else
    (F_impl_isWhole (x.1.2.1, ())).bind fun r2 =>
    if (!r2.1.1) = false then
      let v3 := ((x.1.2.2.1.length : Nat) : Int)
      let v4 := ((x.1.1.1.length : Nat) : Int)
      if (v3 != v4) then
        some (((1 : Int), ()), ())
      else
        let v5 := ((x.1.2.2.1.length : Nat) : Int)
        (L_impl_HostFault_7 (((), (x.1.2.2.1, (v5, ((0 : Int), ())))), (((x.1.1.1, (x.1.1.2.1, (x.1.1.2.2.1, (x.1.1.2.2.2.1, (x.1.2.1, (x.1.2.2.1, (x.1.2.2.2.1, (x.1.2.2.2.2.1, (x.1.2.2.2.2.2.1, ()))))))))), ()), ()))).bind fun z11 =>
        match z11 with
        | .inl x12 =>
          (F_impl_within (x12.2.1.1.2.2.2.2.2.2.2.2.1, (0 : Int), (1000000 : Int), ())).bind fun r13 =>
          if (!r13.1.1) then
            some (((3 : Int), ()), ())
          else
            (F_impl_Policy_turnAt ((x12.2.1.1.1, (x12.2.1.1.2.1, (x12.2.1.1.2.2.1, (x12.2.1.1.2.2.2.1, ())))), x12.2.1.1.2.2.2.2.2.2.2.2.1, ())).bind fun r14 =>
            if (x12.2.1.1.2.2.2.2.2.2.1 != r14.1.1) = false then
              if (x12.2.1.1.2.2.2.2.2.2.2.1 != r14.1.2.1) then
                some (((1 : Int), ()), ())
              else
                some (((0 : Int), ()), ())
            else
              some (((1 : Int), ()), ())
        | .inr z11_ =>
          match z11_ with
          | .inl x15 =>
            some ((x15.1.1, ()), ())
          | .inr z11__ =>
            none
    else
      some (((1 : Int), ()), ())
abbrev C_impl_HostFault : Con := ⟨P_impl_HostFault, R_impl_HostFault, F_impl_HostFault, false⟩
abbrev G_impl_HostFault : Env := [(63, C_impl_within), (90, C_impl_PolicyFault), (92, C_impl_Policy_turnAt), (108, C_impl_isWhole), (109, C_impl_HartFault)]
theorem g_impl_HostFault : EnvOk Try.prog G_impl_HostFault := (env_cons s_impl_within (env_cons s_impl_PolicyFault (env_cons s_impl_Policy_turnAt (env_cons s_impl_isWhole (env_cons s_impl_HartFault env_nil)))))
abbrev c_impl_HostFault_7 : Cut := ⟨i_impl_HostFault_7, o_impl_HostFault_7, fun x => iterF l_impl_HostFault_7 lots x⟩
theorem t_impl_HostFault_7 (rec x) : run T G_impl_HostFault [] (nav Try.f49 [1, 1, 1, 0, 1, 0, 0]) (mk 63 i_impl_HostFault_7 x) (loopK i_impl_HostFault_7 o_impl_HostFault_7 rec) = l_impl_HostFault_7 rec x := by kernel_rfl
theorem k_impl_HostFault_7 : CutOk Try.prog 63 (.loop (nav Try.f49 [1, 1, 1, 0, 1, 0, 0])) c_impl_HostFault_7 :=
  loop_cut (L := []) hT g_impl_HostFault t_impl_HostFault_7 (plain_ok (by kernel_rfl)) _
theorem r_impl_HostFault (x) : runFn T G_impl_HostFault [(7, c_impl_HostFault_7)] Try.f49 P_impl_HostFault R_impl_HostFault x = F_impl_HostFault x := by kernel_rfl
theorem s_impl_HostFault : CallsOk Try.prog 49 C_impl_HostFault :=
  fn_calls (L := [(7, c_impl_HostFault_7)]) hT g_impl_HostFault Try.f49 (by kernel_rfl) (by kernel_rfl) (by kernel_rfl) (seq_ok (plain_ok (by kernel_rfl)) (seq_ok (plain_ok (by kernel_rfl)) (seq_ok (plain_ok (by kernel_rfl)) (seq_ok (seq_ok (plain_ok (by kernel_rfl)) (block_ok (by kernel_rfl) (loop_ok (by kernel_rfl) k_impl_HostFault_7))) (plain_ok (by kernel_rfl)))))) r_impl_HostFault
/-! laws.eqHartS -/
abbrev P_laws_eqHartS : List PK := [.val Y81, .val Y81]
abbrev R_laws_eqHartS : List VK := [.s (.dat .bool)]
abbrev i_laws_eqHartS_4 : Shp := { slots := [(0, .s (.dat Y81)), (1, .s (.dat Y81)), (5, .s (.dat YI))], boxes := [], rows := [] }
abbrev o_laws_eqHartS_4 : List (Ex × Shp) := [(.exit 0, { slots := [], boxes := [], rows := [] }), (.ret, { slots := [(4, .s (.dat .bool))], boxes := [], rows := [] })]
def l_laws_eqHartS_4 (rec : i_laws_eqHartS_4.den → Option (denO o_laws_eqHartS_4)) (u4 : i_laws_eqHartS_4.den) : Option (denO o_laws_eqHartS_4) :=
  let v6 := ((u4.1.1.length : Nat) : Int)
  if (ltI u4.1.2.2.1 v6) then
    if 0 ≤ u4.1.2.2.1 then
      ((u4.1.1)[(u4.1.2.2.1).toNat]?).bind fun y7 =>
      if 0 ≤ u4.1.2.2.1 then
        ((u4.1.2.1)[(u4.1.2.2.1).toNat]?).bind fun y8 =>
        (F_laws_eqHart (y7, y8, ())).bind fun r9 =>
        if (!r9.1.1) then
          some (.inr (.inl ((false, ()), ((), ()))))
        else
          let v10 := (IntKind.i64.wrap (u4.1.2.2.1 + (1 : Int)))
          rec ((u4.1.1, (u4.1.2.1, (v10, ()))), ((), ()))
      else none
    else none
  else
    some (.inl ((), ((), ())))
def L_laws_eqHartS_4 (x : i_laws_eqHartS_4.den) : Option (denO o_laws_eqHartS_4) := iterF l_laws_eqHartS_4 lots x
def F_laws_eqHartS (x : denP P_laws_eqHartS) : Option (denV R_laws_eqHartS × denQ P_laws_eqHartS) :=
  let v1 := ((x.1.length : Nat) : Int)
  let v2 := ((x.2.1.length : Nat) : Int)
  if (v1 != v2) then
    some ((false, ()), ())
  else
    (L_laws_eqHartS_4 ((x.1, (x.2.1, ((0 : Int), ()))), ((), ()))).bind fun z11 =>
    match z11 with
    | .inl x12 =>
      some ((true, ()), ())
    | .inr z11_ =>
      match z11_ with
      | .inl x13 =>
        some ((x13.1.1, ()), ())
      | .inr z11__ =>
        none
abbrev C_laws_eqHartS : Con := ⟨P_laws_eqHartS, R_laws_eqHartS, F_laws_eqHartS, false⟩
abbrev G_laws_eqHartS : Env := [(74, C_laws_eqHart)]
theorem g_laws_eqHartS : EnvOk Try.prog G_laws_eqHartS := (env_cons s_laws_eqHart env_nil)
abbrev c_laws_eqHartS_4 : Cut := ⟨i_laws_eqHartS_4, o_laws_eqHartS_4, fun x => iterF l_laws_eqHartS_4 lots x⟩
theorem t_laws_eqHartS_4 (rec x) : run T G_laws_eqHartS [] (nav Try.f110 [1, 1, 0, 1, 0, 0]) (mk 27 i_laws_eqHartS_4 x) (loopK i_laws_eqHartS_4 o_laws_eqHartS_4 rec) = l_laws_eqHartS_4 rec x := by kernel_rfl
theorem k_laws_eqHartS_4 : CutOk Try.prog 27 (.loop (nav Try.f110 [1, 1, 0, 1, 0, 0])) c_laws_eqHartS_4 :=
  loop_cut (L := []) hT g_laws_eqHartS t_laws_eqHartS_4 (plain_ok (by kernel_rfl)) _
theorem r_laws_eqHartS (x) : runFn T G_laws_eqHartS [(4, c_laws_eqHartS_4)] Try.f110 P_laws_eqHartS R_laws_eqHartS x = F_laws_eqHartS x := by kernel_rfl
theorem s_laws_eqHartS : CallsOk Try.prog 110 C_laws_eqHartS :=
  fn_calls (L := [(4, c_laws_eqHartS_4)]) hT g_laws_eqHartS Try.f110 (by kernel_rfl) (by kernel_rfl) (by kernel_rfl) (seq_ok (plain_ok (by kernel_rfl)) (seq_ok (plain_ok (by kernel_rfl)) (seq_ok (seq_ok (plain_ok (by kernel_rfl)) (block_ok (by kernel_rfl) (loop_ok (by kernel_rfl) k_laws_eqHartS_4))) (plain_ok (by kernel_rfl))))) r_laws_eqHartS
/-! laws.eqHost -/
abbrev P_laws_eqHost : List PK := [.val Y82, .val Y82]
abbrev R_laws_eqHost : List VK := [.s (.dat .bool)]
def F_laws_eqHost (x : denP P_laws_eqHost) : Option (denV R_laws_eqHost × denQ P_laws_eqHost) :=
  (F_laws_eqPolicy (x.1.1, x.2.1.1, ())).bind fun r1 =>
  if (!r1.1.1) then
    some ((false, ()), ())
  else
    (F_laws_eqInt64S (x.1.2.1, x.2.1.2.1, ())).bind fun r2 =>
    if (!r2.1.1) then
      some ((false, ()), ())
    else
      (F_laws_eqHartS (x.1.2.2.1, x.2.1.2.2.1, ())).bind fun r3 =>
      if (!r3.1.1) then
        some ((false, ()), ())
      else
        if (x.1.2.2.2.1 != x.2.1.2.2.2.1) then
          some ((false, ()), ())
        else
          if (x.1.2.2.2.2.1 != x.2.1.2.2.2.2.1) then
            some ((false, ()), ())
          else
            if (x.1.2.2.2.2.2.1 != x.2.1.2.2.2.2.2.1) then
              some ((false, ()), ())
            else
              some ((true, ()), ())
abbrev C_laws_eqHost : Con := ⟨P_laws_eqHost, R_laws_eqHost, F_laws_eqHost, false⟩
abbrev G_laws_eqHost : Env := [(18, C_laws_eqInt64S), (45, C_laws_eqPolicy), (110, C_laws_eqHartS)]
theorem g_laws_eqHost : EnvOk Try.prog G_laws_eqHost := (env_cons s_laws_eqInt64S (env_cons s_laws_eqPolicy (env_cons s_laws_eqHartS env_nil)))
theorem r_laws_eqHost (x) : runFn T G_laws_eqHost [] Try.f50 P_laws_eqHost R_laws_eqHost x = F_laws_eqHost x := by kernel_rfl
theorem s_laws_eqHost : CallsOk Try.prog 50 C_laws_eqHost :=
  fn_calls (L := []) hT g_laws_eqHost Try.f50 (by kernel_rfl) (by kernel_rfl) (by kernel_rfl) (plain_ok (by kernel_rfl)) r_laws_eqHost
/-! laws.FnExactHostFault -/
abbrev P_laws_FnExactHostFault : List PK := [.val Y82]
abbrev R_laws_FnExactHostFault : List VK := [.s (.dat .bool)]
def F_laws_FnExactHostFault (x : denP P_laws_FnExactHostFault) : Option (denV R_laws_FnExactHostFault × denQ P_laws_FnExactHostFault) :=
  (F_laws_szHost (x.1, (1048576 : Int), ())).bind fun r1 =>
  if (ltI r1.1.1 (0 : Int)) then
    some ((true, ()), ())
  else
    (F_laws_toHost (x.1, ())).bind fun r2 =>
    (F_spec_HostFault (((r2.1.1.1, (r2.1.1.2.1, (r2.1.1.2.2.1, (r2.1.1.2.2.2.1, ())))), (r2.1.1.2.2.2.2.1, (r2.1.1.2.2.2.2.2.1, (r2.1.1.2.2.2.2.2.2.1, (r2.1.1.2.2.2.2.2.2.2.1, (r2.1.1.2.2.2.2.2.2.2.2.1, ())))))), ())).bind fun r3 =>
    (F_laws_toHost (x.1, ())).bind fun r4 =>
    (F_impl_HostFault (((r4.1.1.1, (r4.1.1.2.1, (r4.1.1.2.2.1, (r4.1.1.2.2.2.1, ())))), (r4.1.1.2.2.2.2.1, (r4.1.1.2.2.2.2.2.1, (r4.1.1.2.2.2.2.2.2.1, (r4.1.1.2.2.2.2.2.2.2.1, (r4.1.1.2.2.2.2.2.2.2.2.1, ())))))), ())).bind fun r5 =>
    if (r5.1.1 != r3.1.1) then
      some ((false, ()), ())
    else
      (F_laws_toHost (x.1, ())).bind fun r6 =>
      (F_laws_eqHost (((r4.1.1.1, (r4.1.1.2.1, (r4.1.1.2.2.1, (r4.1.1.2.2.2.1, ())))), (r4.1.1.2.2.2.2.1, (r4.1.1.2.2.2.2.2.1, (r4.1.1.2.2.2.2.2.2.1, (r4.1.1.2.2.2.2.2.2.2.1, (r4.1.1.2.2.2.2.2.2.2.2.1, ())))))), ((r6.1.1.1, (r6.1.1.2.1, (r6.1.1.2.2.1, (r6.1.1.2.2.2.1, ())))), (r6.1.1.2.2.2.2.1, (r6.1.1.2.2.2.2.2.1, (r6.1.1.2.2.2.2.2.2.1, (r6.1.1.2.2.2.2.2.2.2.1, (r6.1.1.2.2.2.2.2.2.2.2.1, ())))))), ())).bind fun r7 =>
      if (!r7.1.1) then
        some ((false, ()), ())
      else
        some ((true, ()), ())
abbrev C_laws_FnExactHostFault : Con := ⟨P_laws_FnExactHostFault, R_laws_FnExactHostFault, F_laws_FnExactHostFault, false⟩
abbrev G_laws_FnExactHostFault : Env := [(46, C_laws_szHost), (47, C_spec_HostFault), (48, C_laws_toHost), (49, C_impl_HostFault), (50, C_laws_eqHost)]
theorem g_laws_FnExactHostFault : EnvOk Try.prog G_laws_FnExactHostFault := (env_cons s_laws_szHost (env_cons s_spec_HostFault (env_cons s_laws_toHost (env_cons s_impl_HostFault (env_cons s_laws_eqHost env_nil)))))
theorem r_laws_FnExactHostFault (x) : runFn T G_laws_FnExactHostFault [] Try.f10 P_laws_FnExactHostFault R_laws_FnExactHostFault x = F_laws_FnExactHostFault x := by kernel_rfl
theorem s_laws_FnExactHostFault : CallsOk Try.prog 10 C_laws_FnExactHostFault :=
  fn_calls (L := []) hT g_laws_FnExactHostFault Try.f10 (by kernel_rfl) (by kernel_rfl) (by kernel_rfl) (plain_ok (by kernel_rfl)) r_laws_FnExactHostFault
theorem q_laws_FnExactHostFault : Sound Try.prog 10 C_laws_FnExactHostFault :=
  fn_snd (L := []) hT g_laws_FnExactHostFault Try.f10 (by kernel_rfl) (by kernel_rfl) (plain_ok (by kernel_rfl)) r_laws_FnExactHostFault
/-! spec.RoundOf -/
abbrev P_spec_RoundOf : List PK := [.val Y61]
abbrev R_spec_RoundOf : List VK := [.s (.dat Y23)]
abbrev i_spec_RoundOf_6 : Shp := { slots := [(1, .s (.ptr 1 0)), (2, .s (.ptr 2 0)), (4, .s (.dat YI)), (5, .s (.dat YI))], boxes := [(1, [.dat Y57, .dat Y58, .dat Y59, .dat Y59]), (2, [.dat YI, .dat YI])], rows := [] }
abbrev o_spec_RoundOf_6 : List (Ex × Shp) := [(.exit 0, { slots := [(2, .s (.ptr 2 0)), (4, .s (.dat YI))], boxes := [(2, [.dat YI, .dat YI])], rows := [] })]
def l_spec_RoundOf_6 (rec : i_spec_RoundOf_6.den → Option (denO o_spec_RoundOf_6)) (u6 : i_spec_RoundOf_6.den) : Option (denO o_spec_RoundOf_6) :=
  let v3 := ((u6.2.1.1.2.2.2.1.length : Nat) : Int)
  if (ltI u6.1.2.2.2.1 v3) then
    if 0 ≤ u6.1.2.2.2.1 then
      ((u6.2.1.1.2.2.2.1)[(u6.1.2.2.2.1).toNat]?).bind fun y4 =>
      let v5 := (IntKind.i64.wrap (u6.1.2.2.1 + y4.2.1))
      let v6 := (IntKind.i64.wrap (u6.1.2.2.2.1 + (1 : Int)))
      rec (((), ((), (v5, (v6, ())))), (((u6.2.1.1.1, (u6.2.1.1.2.1, (u6.2.1.1.2.2.1, (u6.2.1.1.2.2.2.1, ())))), ((u6.2.1.2.1.1, (u6.2.1.2.1.2.1, ())), ())), ()))
    else none
  else
    some (.inl (((), (u6.1.2.2.1, ())), (((u6.2.1.2.1.1, (u6.2.1.2.1.2.1, ())), ()), ())))
def L_spec_RoundOf_6 (x : i_spec_RoundOf_6.den) : Option (denO o_spec_RoundOf_6) := iterF l_spec_RoundOf_6 lots x
def F_spec_RoundOf (x : denP P_spec_RoundOf) : Option (denV R_spec_RoundOf × denQ P_spec_RoundOf) :=
  (F_spec_l6Fault (x.1, ())).bind fun r1 =>
  if (r1.1.1 != (0 : Int)) then
    some (((r1.1.1, ((0 : Int), ())), ()), ())
  else
    (L_spec_RoundOf_6 (((), ((), ((0 : Int), ((0 : Int), ())))), (((x.1.1, (x.1.2.1, (x.1.2.2.1, (x.1.2.2.2.1, ())))), (((0 : Int), ((0 : Int), ())), ())), ()))).bind fun z7 =>
    match z7 with
    | .inl x8 =>
      some ((((0 : Int), (x8.1.2.1, ())), ()), ())
    | .inr z7_ =>
      none
abbrev C_spec_RoundOf : Con := ⟨P_spec_RoundOf, R_spec_RoundOf, F_spec_RoundOf, false⟩
abbrev G_spec_RoundOf : Env := [(139, C_spec_l6Fault)]
theorem g_spec_RoundOf : EnvOk Try.prog G_spec_RoundOf := (env_cons s_spec_l6Fault env_nil)
abbrev c_spec_RoundOf_6 : Cut := ⟨i_spec_RoundOf_6, o_spec_RoundOf_6, fun x => iterF l_spec_RoundOf_6 lots x⟩
theorem t_spec_RoundOf_6 (rec x) : run T G_spec_RoundOf [] (nav Try.f111 [1, 1, 1, 0, 1, 0, 0]) (mk 28 i_spec_RoundOf_6 x) (loopK i_spec_RoundOf_6 o_spec_RoundOf_6 rec) = l_spec_RoundOf_6 rec x := by kernel_rfl
theorem k_spec_RoundOf_6 : CutOk Try.prog 28 (.loop (nav Try.f111 [1, 1, 1, 0, 1, 0, 0])) c_spec_RoundOf_6 :=
  loop_cut (L := []) hT g_spec_RoundOf t_spec_RoundOf_6 (plain_ok (by kernel_rfl)) _
theorem r_spec_RoundOf (x) : runFn T G_spec_RoundOf [(6, c_spec_RoundOf_6)] Try.f111 P_spec_RoundOf R_spec_RoundOf x = F_spec_RoundOf x := by kernel_rfl
theorem s_spec_RoundOf : CallsOk Try.prog 111 C_spec_RoundOf :=
  fn_calls (L := [(6, c_spec_RoundOf_6)]) hT g_spec_RoundOf Try.f111 (by kernel_rfl) (by kernel_rfl) (by kernel_rfl) (seq_ok (plain_ok (by kernel_rfl)) (seq_ok (plain_ok (by kernel_rfl)) (seq_ok (plain_ok (by kernel_rfl)) (seq_ok (seq_ok (plain_ok (by kernel_rfl)) (block_ok (by kernel_rfl) (loop_ok (by kernel_rfl) k_spec_RoundOf_6))) (plain_ok (by kernel_rfl)))))) r_spec_RoundOf
/-! spec.RestOf -/
abbrev P_spec_RestOf : List PK := [.val Y82]
abbrev R_spec_RestOf : List VK := [.s (.dat Y23)]
def F_spec_RestOf (x : denP P_spec_RestOf) : Option (denV R_spec_RestOf × denQ P_spec_RestOf) :=
  (F_spec_l12Fault (x.1, ())).bind fun r1 =>
  if (r1.1.1 != (0 : Int)) then
    some (((r1.1.1, ((0 : Int), ())), ()), ())
  else
    (F_spec_RoundOf (x.1.1, ())).bind fun r2 =>
    if r2.1.1.2.1 = 0 then none else
    let v3 := ((x.1.2.2.2.2.2.1).tmod r2.1.1.2.1)
    let v4 := (IntKind.i64.wrap (r2.1.1.2.1 - v3))
    if r2.1.1.2.1 = 0 then none else
    let v5 := ((v4).tmod r2.1.1.2.1)
    some ((((0 : Int), (v5, ())), ()), ())
abbrev C_spec_RestOf : Con := ⟨P_spec_RestOf, R_spec_RestOf, F_spec_RestOf, false⟩
abbrev G_spec_RestOf : Env := [(106, C_spec_l12Fault), (111, C_spec_RoundOf)]
theorem g_spec_RestOf : EnvOk Try.prog G_spec_RestOf := (env_cons s_spec_l12Fault (env_cons s_spec_RoundOf env_nil))
theorem r_spec_RestOf (x) : runFn T G_spec_RestOf [] Try.f51 P_spec_RestOf R_spec_RestOf x = F_spec_RestOf x := by kernel_rfl
theorem s_spec_RestOf : CallsOk Try.prog 51 C_spec_RestOf :=
  fn_calls (L := []) hT g_spec_RestOf Try.f51 (by kernel_rfl) (by kernel_rfl) (by kernel_rfl) (plain_ok (by kernel_rfl)) r_spec_RestOf
/-! impl.RestOf -/
abbrev P_impl_RestOf : List PK := [.val Y82]
abbrev R_impl_RestOf : List VK := [.s (.dat Y23)]
def F_impl_RestOf (x : denP P_impl_RestOf) : Option (denV R_impl_RestOf × denQ P_impl_RestOf) :=
  (F_impl_HostFault (x.1, ())).bind fun r1 =>
  if (r1.1.1 != (0 : Int)) then
    some (((r1.1.1, ((0 : Int), ())), ()), ())
  else
    (F_impl_Policy_stepsOf (x.1.1, (-1 : Int), ())).bind fun r2 =>
    if r2.1.1 = 0 then none else
    let v3 := ((x.1.2.2.2.2.2.1).tmod r2.1.1)
    let v4 := (IntKind.i64.wrap (r2.1.1 - v3))
    if r2.1.1 = 0 then none else
    let v5 := ((v4).tmod r2.1.1)
    some ((((0 : Int), (v5, ())), ()), ())
abbrev C_impl_RestOf : Con := ⟨P_impl_RestOf, R_impl_RestOf, F_impl_RestOf, false⟩
abbrev G_impl_RestOf : Env := [(49, C_impl_HostFault), (85, C_impl_Policy_stepsOf)]
theorem g_impl_RestOf : EnvOk Try.prog G_impl_RestOf := (env_cons s_impl_HostFault (env_cons s_impl_Policy_stepsOf env_nil))
theorem r_impl_RestOf (x) : runFn T G_impl_RestOf [] Try.f52 P_impl_RestOf R_impl_RestOf x = F_impl_RestOf x := by kernel_rfl
theorem s_impl_RestOf : CallsOk Try.prog 52 C_impl_RestOf :=
  fn_calls (L := []) hT g_impl_RestOf Try.f52 (by kernel_rfl) (by kernel_rfl) (by kernel_rfl) (plain_ok (by kernel_rfl)) r_impl_RestOf
/-! laws.FnExactRestOf -/
abbrev P_laws_FnExactRestOf : List PK := [.val Y82]
abbrev R_laws_FnExactRestOf : List VK := [.s (.dat .bool)]
def F_laws_FnExactRestOf (x : denP P_laws_FnExactRestOf) : Option (denV R_laws_FnExactRestOf × denQ P_laws_FnExactRestOf) :=
  (F_laws_szHost (x.1, (1048576 : Int), ())).bind fun r1 =>
  if (ltI r1.1.1 (0 : Int)) then
    some ((true, ()), ())
  else
    (F_laws_toHost (x.1, ())).bind fun r2 =>
    (F_spec_RestOf (((r2.1.1.1, (r2.1.1.2.1, (r2.1.1.2.2.1, (r2.1.1.2.2.2.1, ())))), (r2.1.1.2.2.2.2.1, (r2.1.1.2.2.2.2.2.1, (r2.1.1.2.2.2.2.2.2.1, (r2.1.1.2.2.2.2.2.2.2.1, (r2.1.1.2.2.2.2.2.2.2.2.1, ())))))), ())).bind fun r3 =>
    (F_laws_toHost (x.1, ())).bind fun r4 =>
    (F_impl_RestOf (((r4.1.1.1, (r4.1.1.2.1, (r4.1.1.2.2.1, (r4.1.1.2.2.2.1, ())))), (r4.1.1.2.2.2.2.1, (r4.1.1.2.2.2.2.2.1, (r4.1.1.2.2.2.2.2.2.1, (r4.1.1.2.2.2.2.2.2.2.1, (r4.1.1.2.2.2.2.2.2.2.2.1, ())))))), ())).bind fun r5 =>
    (F_laws_eqIntResult (r5.1.1, r3.1.1, ())).bind fun r6 =>
    if (!r6.1.1) then
      some ((false, ()), ())
    else
      (F_laws_toHost (x.1, ())).bind fun r7 =>
      (F_laws_eqHost (((r4.1.1.1, (r4.1.1.2.1, (r4.1.1.2.2.1, (r4.1.1.2.2.2.1, ())))), (r4.1.1.2.2.2.2.1, (r4.1.1.2.2.2.2.2.1, (r4.1.1.2.2.2.2.2.2.1, (r4.1.1.2.2.2.2.2.2.2.1, (r4.1.1.2.2.2.2.2.2.2.2.1, ())))))), ((r7.1.1.1, (r7.1.1.2.1, (r7.1.1.2.2.1, (r7.1.1.2.2.2.1, ())))), (r7.1.1.2.2.2.2.1, (r7.1.1.2.2.2.2.2.1, (r7.1.1.2.2.2.2.2.2.1, (r7.1.1.2.2.2.2.2.2.2.1, (r7.1.1.2.2.2.2.2.2.2.2.1, ())))))), ())).bind fun r8 =>
      if (!r8.1.1) then
        some ((false, ()), ())
      else
        some ((true, ()), ())
abbrev C_laws_FnExactRestOf : Con := ⟨P_laws_FnExactRestOf, R_laws_FnExactRestOf, F_laws_FnExactRestOf, false⟩
abbrev G_laws_FnExactRestOf : Env := [(17, C_laws_eqIntResult), (46, C_laws_szHost), (48, C_laws_toHost), (50, C_laws_eqHost), (51, C_spec_RestOf), (52, C_impl_RestOf)]
theorem g_laws_FnExactRestOf : EnvOk Try.prog G_laws_FnExactRestOf := (env_cons s_laws_eqIntResult (env_cons s_laws_szHost (env_cons s_laws_toHost (env_cons s_laws_eqHost (env_cons s_spec_RestOf (env_cons s_impl_RestOf env_nil))))))
theorem r_laws_FnExactRestOf (x) : runFn T G_laws_FnExactRestOf [] Try.f11 P_laws_FnExactRestOf R_laws_FnExactRestOf x = F_laws_FnExactRestOf x := by kernel_rfl
theorem s_laws_FnExactRestOf : CallsOk Try.prog 11 C_laws_FnExactRestOf :=
  fn_calls (L := []) hT g_laws_FnExactRestOf Try.f11 (by kernel_rfl) (by kernel_rfl) (by kernel_rfl) (plain_ok (by kernel_rfl)) r_laws_FnExactRestOf
theorem q_laws_FnExactRestOf : Sound Try.prog 11 C_laws_FnExactRestOf :=
  fn_snd (L := []) hT g_laws_FnExactRestOf Try.f11 (by kernel_rfl) (by kernel_rfl) (plain_ok (by kernel_rfl)) r_laws_FnExactRestOf
end Go.Proofs.Yteddlkdbefloaaa
