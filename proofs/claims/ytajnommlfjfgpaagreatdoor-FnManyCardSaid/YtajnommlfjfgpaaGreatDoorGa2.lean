/- The functions of the laws, each as a plain function of data (F), and that the program's text does what F says. Printed by a program (wip/tools/gen.py). -/
import Derived.Test.YtajnommlfjfgpaaGreatDoorGa1
namespace Go.Proofs.YtajnommlfjfgpaaGreatDoor
open Go Go.RowKit S Go.Proofs
set_option maxRecDepth 100000
set_option linter.unusedVariables false
/-! impl.PagesFrom -/
abbrev P_impl_PagesFrom : List PK := [.val Y24]
abbrev R_impl_PagesFrom : List VK := [.g [.dat YI, .own 41 Y40]]
abbrev i_impl_PagesFrom_7 : Shp := { slots := [(2, .s (.ptr 2 0)), (3, .s (.own 41 Y40)), (15, .s (.dat Y24)), (16, .s (.dat YI)), (17, .s (.dat YI))], boxes := [(2, [.dat YI, .own 41 Y40])], rows := [] }
abbrev o_impl_PagesFrom_7 : List (Ex × Shp) := [(.exit 0, { slots := [(2, .s (.ptr 2 0)), (3, .s (.own 41 Y40))], boxes := [(2, [.dat YI, .own 41 Y40])], rows := [] })]
def l_impl_PagesFrom_7 (rec : i_impl_PagesFrom_7.den → Option (denO o_impl_PagesFrom_7)) (u7 : i_impl_PagesFrom_7.den) : Option (denO o_impl_PagesFrom_7) :=
  if (ltI u7.1.2.2.2.2.1 u7.1.2.2.2.1) then
    if 0 ≤ u7.1.2.2.2.2.1 then
      ((u7.1.2.2.1)[(u7.1.2.2.2.2.1).toNat]?).bind fun y6 =>
      (F_impl_entryOf (y6, ())).bind fun r7 =>
      if (u7.1.2.1.length + [r7.1.1].length) * 16 ≤ 140737488355328 then
        let v8 := (u7.1.2.1 ++ [r7.1.1])
        let v9 := (IntKind.i64.wrap (u7.1.2.2.2.2.1 + (1 : Int)))
        rec (((), (v8, (u7.1.2.2.1, (u7.1.2.2.2.1, (v9, ()))))), ((u7.2.1.1, ()), ()))
      else none
    else none
  else
    some (.inl (((), (u7.1.2.1, ())), ((u7.2.1.1, ()), ())))
def L_impl_PagesFrom_7 (x : i_impl_PagesFrom_7.den) : Option (denO o_impl_PagesFrom_7) := iterF l_impl_PagesFrom_7 lots x
def F_impl_PagesFrom (x : denP P_impl_PagesFrom) : Option (denV R_impl_PagesFrom × denQ P_impl_PagesFrom) :=
  let v1 := ((x.1.length : Nat) : Int)
  if (v1 != (8 : Int)) then
    some ((((1 : Int), (([] : List (den Y40)), ())), ()), ())
  else
    (F_impl_areWords (x.1, ())).bind fun r2 =>
    if (!r2.1.1) then
      some ((((3 : Int), (([] : List (den Y40)), ())), ()), ())
    else
      let v3 := ((x.1.length : Nat) : Int)
      (L_impl_PagesFrom_7 (((), (([] : List (den Y40)), (x.1, (v3, ((0 : Int), ()))))), ((((0 : Int), (([] : List (den Y40)), ())), ()), ()))).bind fun z10 =>
      match z10 with
      | .inl x11 =>
        some ((((0 : Int), (x11.1.2.1, ())), ()), ())
      | .inr z10_ =>
        none
abbrev C_impl_PagesFrom : Con := ⟨P_impl_PagesFrom, R_impl_PagesFrom, F_impl_PagesFrom, false⟩
abbrev G_impl_PagesFrom : Env := [(62, C_impl_areWords), (281, C_impl_entryOf)]
theorem g_impl_PagesFrom : EnvOk Tryz.prog G_impl_PagesFrom := (env_cons s_impl_areWords (env_cons s_impl_entryOf env_nil))
abbrev c_impl_PagesFrom_7 : Cut := ⟨i_impl_PagesFrom_7, o_impl_PagesFrom_7, fun x => iterF l_impl_PagesFrom_7 lots x⟩
theorem t_impl_PagesFrom_7 (rec x) : run T G_impl_PagesFrom [] (nav Tryz.f232 [1, 1, 1, 1, 0, 1, 0, 0]) (mk 29 i_impl_PagesFrom_7 x) (loopK i_impl_PagesFrom_7 o_impl_PagesFrom_7 rec) = l_impl_PagesFrom_7 rec x := by kernel_rfl
theorem k_impl_PagesFrom_7 : CutOk Tryz.prog 29 (.loop (nav Tryz.f232 [1, 1, 1, 1, 0, 1, 0, 0])) c_impl_PagesFrom_7 :=
  loop_cut (L := []) hT g_impl_PagesFrom t_impl_PagesFrom_7 (plain_ok (by kernel_rfl)) _
theorem r_impl_PagesFrom (x) : runFn T G_impl_PagesFrom [(7, c_impl_PagesFrom_7)] Tryz.f232 P_impl_PagesFrom R_impl_PagesFrom x = F_impl_PagesFrom x := by kernel_rfl
theorem s_impl_PagesFrom : CallsOk Tryz.prog 232 C_impl_PagesFrom :=
  fn_calls (L := [(7, c_impl_PagesFrom_7)]) hT g_impl_PagesFrom Tryz.f232 (by kernel_rfl) (by kernel_rfl) (by kernel_rfl) (seq_ok (plain_ok (by kernel_rfl)) (seq_ok (plain_ok (by kernel_rfl)) (seq_ok (plain_ok (by kernel_rfl)) (seq_ok (plain_ok (by kernel_rfl)) (seq_ok (seq_ok (plain_ok (by kernel_rfl)) (block_ok (by kernel_rfl) (loop_ok (by kernel_rfl) k_impl_PagesFrom_7))) (plain_ok (by kernel_rfl))))))) r_impl_PagesFrom
/-! (*impl.Hart).space -/
abbrev P_impl_Hart_space : List PK := [.ptr Y25, .val Y27, .val Y24]
abbrev R_impl_Hart_space : List VK := [.g [.dat YI, .own 41 Y40]]
abbrev i_impl_Hart_space_5 : Shp := { slots := [(6, .s (.ptr 6 0)), (8, .s (.own 41 Y40)), (20, .s (.dat YI))], boxes := [(6, [.dat YI, .own 41 Y40])], rows := [] }
abbrev o_impl_Hart_space_5 : List (Ex × Shp) := [(.exit 0, { slots := [(6, .s (.ptr 6 0)), (8, .s (.own 41 Y40))], boxes := [(6, [.dat YI, .own 41 Y40])], rows := [] })]
def l_impl_Hart_space_5 (rec : i_impl_Hart_space_5.den → Option (denO o_impl_Hart_space_5)) (u5 : i_impl_Hart_space_5.den) : Option (denO o_impl_Hart_space_5) :=
  if (ltI u5.1.2.2.1 (8 : Int)) then
    if (u5.1.2.1.length + [(u5.1.2.2.1, ((7 : Int), ()))].length) * 16 ≤ 140737488355328 then
      let v3 := (u5.1.2.1 ++ [(u5.1.2.2.1, ((7 : Int), ()))])
      let v4 := (IntKind.i64.wrap (u5.1.2.2.1 + (1 : Int)))
      rec (((), (v3, (v4, ()))), ((u5.2.1.1, ()), ()))
    else none
  else
    some (.inl (((), (u5.1.2.1, ())), ((u5.2.1.1, ()), ())))
def L_impl_Hart_space_5 (x : i_impl_Hart_space_5.den) : Option (denO o_impl_Hart_space_5) := iterF l_impl_Hart_space_5 lots x
def F_impl_Hart_space (x : denP P_impl_Hart_space) : Option (denV R_impl_Hart_space × denQ P_impl_Hart_space) :=
  ((x.1.2.2.1)[((10 : Int)).toNat]?).bind fun y1 =>
  let v2 := (IntKind.i64.wrap (y1 - (1 : Int)))
  if (ltI v2 (0 : Int)) then
    (L_impl_Hart_space_5 (((), (([] : List (den Y40)), ((0 : Int), ()))), ((((0 : Int), (([] : List (den Y40)), ())), ()), ()))).bind fun z5 =>
    match z5 with
    | .inl x6 =>
      some ((((0 : Int), (x6.1.2.1, ())), ()), ())
    | .inr z5_ =>
      none
  else
    if 0 ≤ v2 then
      ((x.2.1)[(v2).toNat]?).bind fun y7 =>
      if (ltI y7.1 (0 : Int)) = false then
        if 0 ≤ v2 then
          ((x.2.1)[(v2).toNat]?).bind fun y8 =>
          let v9 := (iand .i64 y8.2.1 (1 : Int))
          if (v9 == (0 : Int)) = false then
            if (v2 == (7 : Int)) then
              some ((((7 : Int), (([] : List (den Y40)), ())), ()), ())
            else
              if 0 ≤ v2 then
                ((x.2.1)[(v2).toNat]?).bind fun y10 =>
                (F_impl_pageOf (x.2.2.1, y10.1, ())).bind fun r11 =>
                (F_impl_PagesFrom (r11.1.1, ())).bind fun r12 =>
                some ((r12.1.1, ()), ())
              else none
          else
            some ((((7 : Int), (([] : List (den Y40)), ())), ()), ())
        else none
      else
        some ((((7 : Int), (([] : List (den Y40)), ())), ()), ())
    else none
abbrev C_impl_Hart_space : Con := ⟨P_impl_Hart_space, R_impl_Hart_space, F_impl_Hart_space, false⟩
abbrev G_impl_Hart_space : Env := [(80, C_impl_pageOf), (232, C_impl_PagesFrom)]
theorem g_impl_Hart_space : EnvOk Tryz.prog G_impl_Hart_space := (env_cons s_impl_pageOf (env_cons s_impl_PagesFrom env_nil))
abbrev c_impl_Hart_space_5 : Cut := ⟨i_impl_Hart_space_5, o_impl_Hart_space_5, fun x => iterF l_impl_Hart_space_5 lots x⟩
theorem t_impl_Hart_space_5 (rec x) : run T G_impl_Hart_space [] (nav Tryz.f160 [1, 1, 0, 1, 0, 1, 0, 1, 0, 0]) (mk 59 i_impl_Hart_space_5 x) (loopK i_impl_Hart_space_5 o_impl_Hart_space_5 rec) = l_impl_Hart_space_5 rec x := by kernel_rfl
theorem k_impl_Hart_space_5 : CutOk Tryz.prog 59 (.loop (nav Tryz.f160 [1, 1, 0, 1, 0, 1, 0, 1, 0, 0])) c_impl_Hart_space_5 :=
  loop_cut (L := []) hT g_impl_Hart_space t_impl_Hart_space_5 (plain_ok (by kernel_rfl)) _
theorem r_impl_Hart_space (x) : runFn T G_impl_Hart_space [(5, c_impl_Hart_space_5)] Tryz.f160 P_impl_Hart_space R_impl_Hart_space x = F_impl_Hart_space x := by kernel_rfl
theorem s_impl_Hart_space : CallsOk Tryz.prog 160 C_impl_Hart_space :=
  fn_calls (L := [(5, c_impl_Hart_space_5)]) hT g_impl_Hart_space Tryz.f160 (by kernel_rfl) (by kernel_rfl) (by kernel_rfl) (seq_ok (plain_ok (by kernel_rfl)) (seq_ok (plain_ok (by kernel_rfl)) (seq_ok (seq_ok (plain_ok (by kernel_rfl)) (cond_ok (seq_ok (plain_ok (by kernel_rfl)) (seq_ok (seq_ok (plain_ok (by kernel_rfl)) (block_ok (by kernel_rfl) (loop_ok (by kernel_rfl) k_impl_Hart_space_5))) (plain_ok (by kernel_rfl)))) (plain_ok (by kernel_rfl)))) (plain_ok (by kernel_rfl))))) r_impl_Hart_space
/-! impl.hasPage -/
abbrev P_impl_hasPage : List PK := [.val YI]
abbrev R_impl_hasPage : List VK := [.s (.dat .bool)]
def F_impl_hasPage (x : denP P_impl_hasPage) : Option (denV R_impl_hasPage × denQ P_impl_hasPage) :=
  (F_impl_within (x.1, (0 : Int), (63 : Int), ())).bind fun r1 =>
  some ((r1.1.1, ()), ())
abbrev C_impl_hasPage : Con := ⟨P_impl_hasPage, R_impl_hasPage, F_impl_hasPage, false⟩
abbrev G_impl_hasPage : Env := [(56, C_impl_within)]
theorem g_impl_hasPage : EnvOk Tryz.prog G_impl_hasPage := (env_cons s_impl_within env_nil)
theorem r_impl_hasPage (x) : runFn T G_impl_hasPage [] Tryz.f233 P_impl_hasPage R_impl_hasPage x = F_impl_hasPage x := by kernel_rfl
theorem s_impl_hasPage : CallsOk Tryz.prog 233 C_impl_hasPage :=
  fn_calls (L := []) hT g_impl_hasPage Tryz.f233 (by kernel_rfl) (by kernel_rfl) (by kernel_rfl) (plain_ok (by kernel_rfl)) r_impl_hasPage
/-! impl.kindCode -/
abbrev P_impl_kindCode : List PK := [.val YI]
abbrev R_impl_kindCode : List VK := [.s (.dat YI)]
def F_impl_kindCode (x : denP P_impl_kindCode) : Option (denV R_impl_kindCode × denQ P_impl_kindCode) :=
  if (x.1 == (1 : Int)) then
    some (((7 : Int), ()), ())
  else
    if (x.1 == (2 : Int)) then
      some (((8 : Int), ()), ())
    else
      if (x.1 == (4 : Int)) then
        some (((9 : Int), ()), ())
      else
        some (((0 : Int), ()), ())
abbrev C_impl_kindCode : Con := ⟨P_impl_kindCode, R_impl_kindCode, F_impl_kindCode, false⟩
abbrev G_impl_kindCode : Env := []
theorem g_impl_kindCode : EnvOk Tryz.prog G_impl_kindCode := env_nil
theorem r_impl_kindCode (x) : runFn T G_impl_kindCode [] Tryz.f68 P_impl_kindCode R_impl_kindCode x = F_impl_kindCode x := by kernel_rfl
theorem s_impl_kindCode : CallsOk Tryz.prog 68 C_impl_kindCode :=
  fn_calls (L := []) hT g_impl_kindCode Tryz.f68 (by kernel_rfl) (by kernel_rfl) (by kernel_rfl) (plain_ok (by kernel_rfl)) r_impl_kindCode
/-! impl.walk -/
abbrev P_impl_walk : List PK := [.val Y27, .val YI, .val YI]
abbrev R_impl_walk : List VK := [.s (.dat Y40)]
def F_impl_walk (x : denP P_impl_walk) : Option (denV R_impl_walk × denQ P_impl_walk) :=
  (F_impl_hasPage (x.2.1, ())).bind fun r1 =>
  if (!r1.1.1) = false then
    let v2 := (IntKind.i64.wrap ((x.2.1).tdiv (8 : Int)))
    if 0 ≤ v2 then
      ((x.1)[(v2).toNat]?).bind fun y3 =>
      if (ltI y3.1 (0 : Int)) = false then
        let v4 := (IntKind.i64.wrap ((x.2.1).tdiv (8 : Int)))
        if 0 ≤ v4 then
          ((x.1)[(v4).toNat]?).bind fun y5 =>
          let v6 := (iand .i64 y5.2.1 x.2.2.1)
          if (v6 == (0 : Int)) then
            (F_impl_kindCode (x.2.2.1, ())).bind fun r7 =>
            some (((r7.1.1, ((0 : Int), ())), ()), ())
          else
            let v8 := (IntKind.i64.wrap ((x.2.1).tdiv (8 : Int)))
            if 0 ≤ v8 then
              ((x.1)[(v8).toNat]?).bind fun y9 =>
              let v10 := (IntKind.i64.wrap (y9.1 * (8 : Int)))
              let v11 := ((x.2.1).tmod (8 : Int))
              let v12 := (IntKind.i64.wrap (v10 + v11))
              some ((((0 : Int), (v12, ())), ()), ())
            else none
        else none
      else
        (F_impl_kindCode (x.2.2.1, ())).bind fun r13 =>
        some (((r13.1.1, ((0 : Int), ())), ()), ())
    else none
  else
    (F_impl_kindCode (x.2.2.1, ())).bind fun r14 =>
    some (((r14.1.1, ((0 : Int), ())), ()), ())
abbrev C_impl_walk : Con := ⟨P_impl_walk, R_impl_walk, F_impl_walk, false⟩
abbrev G_impl_walk : Env := [(68, C_impl_kindCode), (233, C_impl_hasPage)]
theorem g_impl_walk : EnvOk Tryz.prog G_impl_walk := (env_cons s_impl_kindCode (env_cons s_impl_hasPage env_nil))
theorem r_impl_walk (x) : runFn T G_impl_walk [] Tryz.f161 P_impl_walk R_impl_walk x = F_impl_walk x := by kernel_rfl
theorem s_impl_walk : CallsOk Tryz.prog 161 C_impl_walk :=
  fn_calls (L := []) hT g_impl_walk Tryz.f161 (by kernel_rfl) (by kernel_rfl) (by kernel_rfl) (plain_ok (by kernel_rfl)) r_impl_walk
/-! (*impl.Hart).place -/
abbrev P_impl_Hart_place : List PK := [.ptr Y25, .val Y27, .val Y24, .val YI, .val YI]
abbrev R_impl_Hart_place : List VK := [.s (.dat Y40)]
def F_impl_Hart_place (x : denP P_impl_Hart_place) : Option (denV R_impl_Hart_place × denQ P_impl_Hart_place) :=
  (F_impl_Hart_space (x.1, x.2.1, x.2.2.1, ())).bind fun r1 =>
  if (r1.1.1.1 != (0 : Int)) then
    some (((r1.1.1.1, ((0 : Int), ())), ()), ())
  else
    (F_impl_walk (r1.1.1.2.1, x.2.2.2.1, x.2.2.2.2.1, ())).bind fun r2 =>
    if (r2.1.1.1 != (0 : Int)) then
      some ((r2.1.1, ()), ())
    else
      let v3 := (IntKind.i64.wrap ((r2.1.1.2.1).tdiv (8 : Int)))
      if (v3 != (7 : Int)) then
        (F_impl_walk (x.2.1, r2.1.1.2.1, x.2.2.2.2.1, ())).bind fun r4 =>
        some ((r4.1.1, ()), ())
      else
        if (x.2.2.2.2.1 == (4 : Int)) then
          some ((((9 : Int), ((0 : Int), ())), ()), ())
        else
          let v5 := ((r2.1.1.2.1).tmod (8 : Int))
          let v6 := (IntKind.i64.wrap ((1000 : Int) + v5))
          some ((((0 : Int), (v6, ())), ()), ())
abbrev C_impl_Hart_place : Con := ⟨P_impl_Hart_place, R_impl_Hart_place, F_impl_Hart_place, false⟩
abbrev G_impl_Hart_place : Env := [(160, C_impl_Hart_space), (161, C_impl_walk)]
theorem g_impl_Hart_place : EnvOk Tryz.prog G_impl_Hart_place := (env_cons s_impl_Hart_space (env_cons s_impl_walk env_nil))
theorem r_impl_Hart_place (x) : runFn T G_impl_Hart_place [] Tryz.f69 P_impl_Hart_place R_impl_Hart_place x = F_impl_Hart_place x := by kernel_rfl
theorem s_impl_Hart_place : CallsOk Tryz.prog 69 C_impl_Hart_place :=
  fn_calls (L := []) hT g_impl_Hart_place Tryz.f69 (by kernel_rfl) (by kernel_rfl) (by kernel_rfl) (plain_ok (by kernel_rfl)) r_impl_Hart_place
/-! impl.InsFault -/
abbrev P_impl_InsFault : List PK := [.val Y42]
abbrev R_impl_InsFault : List VK := [.s (.dat YI)]
def F_impl_InsFault (x : denP P_impl_InsFault) : Option (denV R_impl_InsFault × denQ P_impl_InsFault) :=
  (F_impl_within (x.1.1, (1 : Int), (26 : Int), ())).bind fun r1 =>
  if (!r1.1.1) = false then
    (F_impl_within (x.1.2.1, (0 : Int), (15 : Int), ())).bind fun r2 =>
    if (!r2.1.1) = false then
      (F_impl_within (x.1.2.2.1, (0 : Int), (15 : Int), ())).bind fun r3 =>
      if (!r3.1.1) = false then
        (F_impl_within (x.1.2.2.2.1, (0 : Int), (65535 : Int), ())).bind fun r4 =>
        if (!r4.1.1) then
          some (((3 : Int), ()), ())
        else
          if (leI x.1.1 (11 : Int)) then
            if (ltI (15 : Int) x.1.2.2.2.1) then
              some (((1 : Int), ()), ())
            else
              some (((0 : Int), ()), ())
          else
            if (x.1.1 == (13 : Int)) then
              if (x.1.2.2.1 != (0 : Int)) then
                some (((1 : Int), ()), ())
              else
                some (((0 : Int), ()), ())
            else
              if (x.1.1 == (19 : Int)) then
                if (x.1.2.2.1 != (0 : Int)) then
                  some (((1 : Int), ()), ())
                else
                  some (((0 : Int), ()), ())
              else
                if (x.1.1 == (21 : Int)) then
                  if (ltI (10 : Int) x.1.2.2.2.1) = false then
                    if (x.1.2.2.1 != (0 : Int)) then
                      some (((1 : Int), ()), ())
                    else
                      some (((0 : Int), ()), ())
                  else
                    some (((1 : Int), ()), ())
                else
                  if (x.1.1 == (22 : Int)) then
                    if (ltI (10 : Int) x.1.2.2.2.1) = false then
                      if (x.1.2.1 != (0 : Int)) then
                        some (((1 : Int), ()), ())
                      else
                        some (((0 : Int), ()), ())
                    else
                      some (((1 : Int), ()), ())
                  else
                    if (leI (23 : Int) x.1.1) then
                      if (x.1.2.1 != (0 : Int)) = false then
                        if (x.1.2.2.1 != (0 : Int)) = false then
                          if (x.1.2.2.2.1 != (0 : Int)) then
                            some (((1 : Int), ()), ())
                          else
                            some (((0 : Int), ()), ())
                        else
                          some (((1 : Int), ()), ())
                      else
                        some (((1 : Int), ()), ())
                    else
                      some (((0 : Int), ()), ())
      else
        some (((3 : Int), ()), ())
    else
      some (((3 : Int), ()), ())
  else
    some (((3 : Int), ()), ())
abbrev C_impl_InsFault : Con := ⟨P_impl_InsFault, R_impl_InsFault, F_impl_InsFault, false⟩
abbrev G_impl_InsFault : Env := [(56, C_impl_within)]
theorem g_impl_InsFault : EnvOk Tryz.prog G_impl_InsFault := (env_cons s_impl_within env_nil)
theorem r_impl_InsFault (x) : runFn T G_impl_InsFault [] Tryz.f154 P_impl_InsFault R_impl_InsFault x = F_impl_InsFault x := by kernel_rfl
theorem s_impl_InsFault : CallsOk Tryz.prog 154 C_impl_InsFault :=
  fn_calls (L := []) hT g_impl_InsFault Tryz.f154 (by kernel_rfl) (by kernel_rfl) (by kernel_rfl) (plain_ok (by kernel_rfl)) r_impl_InsFault
/-! impl.DecodeIns -/
abbrev P_impl_DecodeIns : List PK := [.val YI]
abbrev R_impl_DecodeIns : List VK := [.s (.dat Y44)]
def F_impl_DecodeIns (x : denP P_impl_DecodeIns) : Option (denV R_impl_DecodeIns × denQ P_impl_DecodeIns) :=
  let v1 := ((x.1).fdiv (2 ^ 24))
  let v2 := ((x.1).fdiv (2 ^ 20))
  let v3 := (iand .i64 v2 (15 : Int))
  let v4 := ((x.1).fdiv (2 ^ 16))
  let v5 := (iand .i64 v4 (15 : Int))
  let v6 := (iand .i64 x.1 (65535 : Int))
  (F_impl_InsFault ((v1, (v3, (v5, (v6, ())))), ())).bind fun r7 =>
  if (r7.1.1 != (0 : Int)) then
    some ((((5 : Int), (((0 : Int), ((0 : Int), ((0 : Int), ((0 : Int), ())))), ())), ()), ())
  else
    some ((((0 : Int), ((v1, (v3, (v5, (v6, ())))), ())), ()), ())
abbrev C_impl_DecodeIns : Con := ⟨P_impl_DecodeIns, R_impl_DecodeIns, F_impl_DecodeIns, false⟩
abbrev G_impl_DecodeIns : Env := [(154, C_impl_InsFault)]
theorem g_impl_DecodeIns : EnvOk Tryz.prog G_impl_DecodeIns := (env_cons s_impl_InsFault env_nil)
theorem r_impl_DecodeIns (x) : runFn T G_impl_DecodeIns [] Tryz.f64 P_impl_DecodeIns R_impl_DecodeIns x = F_impl_DecodeIns x := by kernel_rfl
theorem s_impl_DecodeIns : CallsOk Tryz.prog 64 C_impl_DecodeIns :=
  fn_calls (L := []) hT g_impl_DecodeIns Tryz.f64 (by kernel_rfl) (by kernel_rfl) (by kernel_rfl) (plain_ok (by kernel_rfl)) r_impl_DecodeIns
/-! impl.WrapWord -/
abbrev P_impl_WrapWord : List PK := [.val YI]
abbrev R_impl_WrapWord : List VK := [.s (.dat YI)]
def F_impl_WrapWord (x : denP P_impl_WrapWord) : Option (denV R_impl_WrapWord × denQ P_impl_WrapWord) :=
  let v1 := (iand .i64 x.1 (4294967295 : Int))
  some ((v1, ()), ())
abbrev C_impl_WrapWord : Con := ⟨P_impl_WrapWord, R_impl_WrapWord, F_impl_WrapWord, false⟩
abbrev G_impl_WrapWord : Env := []
theorem g_impl_WrapWord : EnvOk Tryz.prog G_impl_WrapWord := env_nil
theorem r_impl_WrapWord (x) : runFn T G_impl_WrapWord [] Tryz.f70 P_impl_WrapWord R_impl_WrapWord x = F_impl_WrapWord x := by kernel_rfl
theorem s_impl_WrapWord : CallsOk Tryz.prog 70 C_impl_WrapWord :=
  fn_calls (L := []) hT g_impl_WrapWord Tryz.f70 (by kernel_rfl) (by kernel_rfl) (by kernel_rfl) (plain_ok (by kernel_rfl)) r_impl_WrapWord
/-! impl.AddWords -/
abbrev P_impl_AddWords : List PK := [.val YI, .val YI]
abbrev R_impl_AddWords : List VK := [.s (.dat YI)]
def F_impl_AddWords (x : denP P_impl_AddWords) : Option (denV R_impl_AddWords × denQ P_impl_AddWords) :=
  (F_impl_WrapWord (x.1, ())).bind fun r1 =>
  (F_impl_WrapWord (x.2.1, ())).bind fun r2 =>
  let v3 := (IntKind.i64.wrap (r1.1.1 + r2.1.1))
  (F_impl_WrapWord (v3, ())).bind fun r4 =>
  some ((r4.1.1, ()), ())
abbrev C_impl_AddWords : Con := ⟨P_impl_AddWords, R_impl_AddWords, F_impl_AddWords, false⟩
abbrev G_impl_AddWords : Env := [(70, C_impl_WrapWord)]
theorem g_impl_AddWords : EnvOk Tryz.prog G_impl_AddWords := (env_cons s_impl_WrapWord env_nil)
theorem r_impl_AddWords (x) : runFn T G_impl_AddWords [] Tryz.f27 P_impl_AddWords R_impl_AddWords x = F_impl_AddWords x := by kernel_rfl
theorem s_impl_AddWords : CallsOk Tryz.prog 27 C_impl_AddWords :=
  fn_calls (L := []) hT g_impl_AddWords Tryz.f27 (by kernel_rfl) (by kernel_rfl) (by kernel_rfl) (plain_ok (by kernel_rfl)) r_impl_AddWords
/-! impl.OffsetOf -/
abbrev P_impl_OffsetOf : List PK := [.val YI]
abbrev R_impl_OffsetOf : List VK := [.s (.dat YI)]
def F_impl_OffsetOf (x : denP P_impl_OffsetOf) : Option (denV R_impl_OffsetOf × denQ P_impl_OffsetOf) :=
  let v1 := (iand .i64 x.1 (65535 : Int))
  if (leI (32768 : Int) v1) then
    let v2 := (IntKind.i64.wrap (v1 - (65536 : Int)))
    some ((v2, ()), ())
  else
    some ((v1, ()), ())
abbrev C_impl_OffsetOf : Con := ⟨P_impl_OffsetOf, R_impl_OffsetOf, F_impl_OffsetOf, false⟩
abbrev G_impl_OffsetOf : Env := []
theorem g_impl_OffsetOf : EnvOk Tryz.prog G_impl_OffsetOf := env_nil
theorem r_impl_OffsetOf (x) : runFn T G_impl_OffsetOf [] Tryz.f28 P_impl_OffsetOf R_impl_OffsetOf x = F_impl_OffsetOf x := by kernel_rfl
theorem s_impl_OffsetOf : CallsOk Tryz.prog 28 C_impl_OffsetOf :=
  fn_calls (L := []) hT g_impl_OffsetOf Tryz.f28 (by kernel_rfl) (by kernel_rfl) (by kernel_rfl) (plain_ok (by kernel_rfl)) r_impl_OffsetOf
/-! (*impl.Hart).readDevice -/
abbrev P_impl_Hart_readDevice : List PK := [.box [.own 2 YI, .dat YI, .own 2 YI, .dat .bool, .dat .bool, .dat .bool, .dat YI, .own 2 YI, .own 2 YI] [.own 2 YI, .dat YI, .own 2 YI, .dat .bool, .dat .bool, .dat .bool, .dat YI, .own 2 YI, .own 2 YI], .val YI]
abbrev R_impl_Hart_readDevice : List VK := [.s (.dat YI)]
def F_impl_Hart_readDevice (x : denP P_impl_Hart_readDevice) : Option (denV R_impl_Hart_readDevice × denQ P_impl_Hart_readDevice) :=
  if (x.2.1 == (1 : Int)) then
    let v1 := ((x.1.2.2.2.2.2.2.2.1.length : Nat) : Int)
    if (ltI (0 : Int) v1) then
      if 0 ≤ (0 : Int) ∧ (0 : Int) < ((x.1.2.2.2.2.2.2.2.1.length : Nat) : Int) then
        ((x.1.2.2.2.2.2.2.2.1)[((0 : Int)).toNat]?).bind fun y2 =>
        if 0 ≤ (1 : Int) ∧ (1 : Int) ≤ ((x.1.2.2.2.2.2.2.2.1.length : Nat) : Int) ∧ ((x.1.2.2.2.2.2.2.2.1.length : Nat) : Int) ≤ ((x.1.2.2.2.2.2.2.2.1.length : Nat) : Int) then
          (F_slices_Clone_int64 (((x.1.2.2.2.2.2.2.2.1.drop (0 + ((1 : Int)).toNat)).take ((((x.1.2.2.2.2.2.2.2.1.length : Nat) : Int)).toNat - ((1 : Int)).toNat)), ())).bind fun r3 =>
          some ((y2, ()), ((x.1.1, (x.1.2.1, (x.1.2.2.1, (x.1.2.2.2.1, (x.1.2.2.2.2.1, (x.1.2.2.2.2.2.1, (x.1.2.2.2.2.2.2.1, (r3.1.1, (x.1.2.2.2.2.2.2.2.2.1, ()))))))))), ()))
        else none
      else none
    else
      some (((0 : Int), ()), (x.1, ()))
  else
    if (x.2.1 == (2 : Int)) then
      some ((x.1.2.2.2.2.2.2.1, ()), (x.1, ()))
    else
      if (x.2.1 == (3 : Int)) then
        if 0 ≤ (9 : Int) ∧ (9 : Int) < ((x.1.2.2.1.length : Nat) : Int) then
          ((x.1.2.2.1)[((9 : Int)).toNat]?).bind fun y4 =>
          some ((y4, ()), (x.1, ()))
        else none
      else
        if (x.2.1 == (4 : Int)) then
          (F_impl_Hart_pending (x.1, ())).bind fun r5 =>
          some ((r5.1.1, ()), (x.1, ()))
        else
          if (x.2.1 == (6 : Int)) then
            let v6 := ((x.1.2.2.2.2.2.2.2.1.length : Nat) : Int)
            some ((v6, ()), (x.1, ()))
          else
            some (((0 : Int), ()), (x.1, ()))
abbrev C_impl_Hart_readDevice : Con := ⟨P_impl_Hart_readDevice, R_impl_Hart_readDevice, F_impl_Hart_readDevice, false⟩
abbrev G_impl_Hart_readDevice : Env := [(139, C_slices_Clone_int64), (158, C_impl_Hart_pending)]
theorem g_impl_Hart_readDevice : EnvOk Tryz.prog G_impl_Hart_readDevice := (env_cons s_slices_Clone_int64 (env_cons s_impl_Hart_pending env_nil))
theorem r_impl_Hart_readDevice (x) : runFn T G_impl_Hart_readDevice [] Tryz.f304 P_impl_Hart_readDevice R_impl_Hart_readDevice x = F_impl_Hart_readDevice x := by kernel_rfl
theorem s_impl_Hart_readDevice : CallsOk Tryz.prog 304 C_impl_Hart_readDevice :=
  fn_calls (L := []) hT g_impl_Hart_readDevice Tryz.f304 (by kernel_rfl) (by kernel_rfl) (by kernel_rfl) (plain_ok (by kernel_rfl)) r_impl_Hart_readDevice
/-! (*impl.core).load -/
abbrev P_impl_core_load : List PK := [.box [.own 2 YI, .dat YI, .own 2 YI, .dat .bool, .dat .bool, .dat .bool, .dat YI, .own 2 YI, .own 2 YI, .dat Y27, .own 2 YI, .dat YI, .dat YI] [.own 2 YI, .dat YI, .own 2 YI, .dat .bool, .dat .bool, .dat .bool, .dat YI, .own 2 YI, .own 2 YI, .dat Y27, .own 2 YI, .dat YI, .dat YI], .val YI]
abbrev R_impl_core_load : List VK := [.s (.dat YI), .s (.dat .bool)]
def F_impl_core_load (x : denP P_impl_core_load) : Option (denV R_impl_core_load × denQ P_impl_core_load) :=
  (F_impl_Hart_place ((x.1.1, (x.1.2.1, (x.1.2.2.1, (x.1.2.2.2.1, (x.1.2.2.2.2.1, (x.1.2.2.2.2.2.1, (x.1.2.2.2.2.2.2.1, (x.1.2.2.2.2.2.2.2.1, (x.1.2.2.2.2.2.2.2.2.1, ()))))))))), x.1.2.2.2.2.2.2.2.2.2.1, x.1.2.2.2.2.2.2.2.2.2.2.1, x.2.1, (1 : Int), ())).bind fun r1 =>
  if (r1.1.1.1 != (0 : Int)) then
    (F_impl_core_fail (x.1, (3 : Int), x.2.1, ())).bind fun r2 =>
    some (((0 : Int), false, ()), (r2.2.1, ()))
  else
    if (leI (1000 : Int) r1.1.1.2.1) then
      let v3 := (IntKind.i64.wrap (r1.1.1.2.1 - (1000 : Int)))
      (F_impl_Hart_readDevice ((x.1.1, (x.1.2.1, (x.1.2.2.1, (x.1.2.2.2.1, (x.1.2.2.2.2.1, (x.1.2.2.2.2.2.1, (x.1.2.2.2.2.2.2.1, (x.1.2.2.2.2.2.2.2.1, (x.1.2.2.2.2.2.2.2.2.1, ()))))))))), v3, ())).bind fun r4 =>
      some ((r4.1.1, true, ()), ((r4.2.1.1, (r4.2.1.2.1, (r4.2.1.2.2.1, (r4.2.1.2.2.2.1, (r4.2.1.2.2.2.2.1, (r4.2.1.2.2.2.2.2.1, (r4.2.1.2.2.2.2.2.2.1, (r4.2.1.2.2.2.2.2.2.2.1, (r4.2.1.2.2.2.2.2.2.2.2.1, (x.1.2.2.2.2.2.2.2.2.2.1, (x.1.2.2.2.2.2.2.2.2.2.2.1, (x.1.2.2.2.2.2.2.2.2.2.2.2.1, (x.1.2.2.2.2.2.2.2.2.2.2.2.2.1, ()))))))))))))), ()))
    else
      if 0 ≤ r1.1.1.2.1 ∧ r1.1.1.2.1 < ((x.1.2.2.2.2.2.2.2.2.2.2.1.length : Nat) : Int) then
        ((x.1.2.2.2.2.2.2.2.2.2.2.1)[(r1.1.1.2.1).toNat]?).bind fun y5 =>
        some ((y5, true, ()), (x.1, ()))
      else none
abbrev C_impl_core_load : Con := ⟨P_impl_core_load, R_impl_core_load, F_impl_core_load, false⟩
abbrev G_impl_core_load : Env := [(69, C_impl_Hart_place), (215, C_impl_core_fail), (304, C_impl_Hart_readDevice)]
theorem g_impl_core_load : EnvOk Tryz.prog G_impl_core_load := (env_cons s_impl_Hart_place (env_cons s_impl_core_fail (env_cons s_impl_Hart_readDevice env_nil)))
theorem r_impl_core_load (x) : runFn T G_impl_core_load [] Tryz.f262 P_impl_core_load R_impl_core_load x = F_impl_core_load x := by kernel_rfl
theorem s_impl_core_load : CallsOk Tryz.prog 262 C_impl_core_load :=
  fn_calls (L := []) hT g_impl_core_load Tryz.f262 (by kernel_rfl) (by kernel_rfl) (by kernel_rfl) (plain_ok (by kernel_rfl)) r_impl_core_load
/-! (*impl.Hart).set -/
abbrev P_impl_Hart_set : List PK := [.box [.own 2 YI, .dat YI, .own 2 YI, .dat .bool, .dat .bool, .dat .bool, .dat YI, .own 2 YI, .own 2 YI] [.own 2 YI, .dat YI, .own 2 YI, .dat .bool, .dat .bool, .dat .bool, .dat YI, .own 2 YI, .own 2 YI], .val YI, .val YI]
abbrev R_impl_Hart_set : List VK := []
def F_impl_Hart_set (x : denP P_impl_Hart_set) : Option (denV R_impl_Hart_set × denQ P_impl_Hart_set) :=
  (F_impl_WrapWord (x.2.2.1, ())).bind fun r1 =>
  if (x.2.1 == (0 : Int)) then
    let v2 := ((r1.1.1).tmod (4 : Int))
    if 0 ≤ x.2.1 ∧ x.2.1 < ((x.1.2.2.1.length : Nat) : Int) then
      ((x.1.2.2.1)[(x.2.1).toNat]?).bind fun y3 =>
      let v4 := (x.1.2.2.1.set (x.2.1).toNat v2)
      some ((), ((x.1.1, (x.1.2.1, (v4, (x.1.2.2.2.1, (x.1.2.2.2.2.1, (x.1.2.2.2.2.2.1, (x.1.2.2.2.2.2.2.1, (x.1.2.2.2.2.2.2.2.1, (x.1.2.2.2.2.2.2.2.2.1, ()))))))))), ()))
    else none
  else
    if (x.2.1 == (7 : Int)) then
      let v5 := ((r1.1.1).tmod (8 : Int))
      if 0 ≤ x.2.1 ∧ x.2.1 < ((x.1.2.2.1.length : Nat) : Int) then
        ((x.1.2.2.1)[(x.2.1).toNat]?).bind fun y6 =>
        let v7 := (x.1.2.2.1.set (x.2.1).toNat v5)
        some ((), ((x.1.1, (x.1.2.1, (v7, (x.1.2.2.2.1, (x.1.2.2.2.2.1, (x.1.2.2.2.2.2.1, (x.1.2.2.2.2.2.2.1, (x.1.2.2.2.2.2.2.2.1, (x.1.2.2.2.2.2.2.2.2.1, ()))))))))), ()))
      else none
    else
      if (x.2.1 == (10 : Int)) then
        if 0 ≤ x.2.1 ∧ x.2.1 < ((x.1.2.2.1.length : Nat) : Int) then
          ((x.1.2.2.1)[(x.2.1).toNat]?).bind fun y8 =>
          let v9 := (x.1.2.2.1.set (x.2.1).toNat (0 : Int))
          if (leI r1.1.1 (8 : Int)) then
            if 0 ≤ x.2.1 ∧ x.2.1 < ((v9.length : Nat) : Int) then
              ((v9)[(x.2.1).toNat]?).bind fun y10 =>
              let v11 := (v9.set (x.2.1).toNat r1.1.1)
              some ((), ((x.1.1, (x.1.2.1, (v11, (x.1.2.2.2.1, (x.1.2.2.2.2.1, (x.1.2.2.2.2.2.1, (x.1.2.2.2.2.2.2.1, (x.1.2.2.2.2.2.2.2.1, (x.1.2.2.2.2.2.2.2.2.1, ()))))))))), ()))
            else none
          else
            some ((), ((x.1.1, (x.1.2.1, (v9, (x.1.2.2.2.1, (x.1.2.2.2.2.1, (x.1.2.2.2.2.2.1, (x.1.2.2.2.2.2.2.1, (x.1.2.2.2.2.2.2.2.1, (x.1.2.2.2.2.2.2.2.2.1, ()))))))))), ()))
        else none
      else
        if (x.2.1 == (6 : Int)) then
          let v12 := ((r1.1.1).tmod (4 : Int))
          if (leI (2 : Int) v12) then
            some ((), ((x.1.1, (x.1.2.1, (x.1.2.2.1, (x.1.2.2.2.1, (x.1.2.2.2.2.1, (false, (x.1.2.2.2.2.2.2.1, (x.1.2.2.2.2.2.2.2.1, (x.1.2.2.2.2.2.2.2.2.1, ()))))))))), ()))
          else
            some ((), (x.1, ()))
        else
          if (x.2.1 == (8 : Int)) then
            some ((), (x.1, ()))
          else
            if 0 ≤ x.2.1 ∧ x.2.1 < ((x.1.2.2.1.length : Nat) : Int) then
              ((x.1.2.2.1)[(x.2.1).toNat]?).bind fun y13 =>
              let v14 := (x.1.2.2.1.set (x.2.1).toNat r1.1.1)
              some ((), ((x.1.1, (x.1.2.1, (v14, (x.1.2.2.2.1, (x.1.2.2.2.2.1, (x.1.2.2.2.2.2.1, (x.1.2.2.2.2.2.2.1, (x.1.2.2.2.2.2.2.2.1, (x.1.2.2.2.2.2.2.2.2.1, ()))))))))), ()))
            else none
abbrev C_impl_Hart_set : Con := ⟨P_impl_Hart_set, R_impl_Hart_set, F_impl_Hart_set, false⟩
abbrev G_impl_Hart_set : Env := [(70, C_impl_WrapWord)]
theorem g_impl_Hart_set : EnvOk Tryz.prog G_impl_Hart_set := (env_cons s_impl_WrapWord env_nil)
theorem r_impl_Hart_set (x) : runFn T G_impl_Hart_set [] Tryz.f266 P_impl_Hart_set R_impl_Hart_set x = F_impl_Hart_set x := by kernel_rfl
theorem s_impl_Hart_set : CallsOk Tryz.prog 266 C_impl_Hart_set :=
  fn_calls (L := []) hT g_impl_Hart_set Tryz.f266 (by kernel_rfl) (by kernel_rfl) (by kernel_rfl) (plain_ok (by kernel_rfl)) r_impl_Hart_set
/-! (*impl.Hart).writeDevice -/
abbrev P_impl_Hart_writeDevice : List PK := [.box [.own 2 YI, .dat YI, .own 2 YI, .dat .bool, .dat .bool, .dat .bool, .dat YI, .own 2 YI, .own 2 YI] [.own 2 YI, .dat YI, .own 2 YI, .dat .bool, .dat .bool, .dat .bool, .dat YI, .own 2 YI, .own 2 YI], .val YI, .val YI]
abbrev R_impl_Hart_writeDevice : List VK := [.s (.dat YI)]
def F_impl_Hart_writeDevice (x : denP P_impl_Hart_writeDevice) : Option (denV R_impl_Hart_writeDevice × denQ P_impl_Hart_writeDevice) :=
  (F_impl_WrapWord (x.2.2.1, ())).bind fun r1 =>
  if (x.2.1 == (0 : Int)) then
    let v2 := ((x.1.2.2.2.2.2.2.2.2.1.length : Nat) : Int)
    if (ltI v2 (40 : Int)) then
      (F_slices_Clone_int64 (x.1.2.2.2.2.2.2.2.2.1, ())).bind fun r3 =>
      if (r3.1.1.length + [r1.1.1].length) * 8 ≤ 140737488355328 then
        let v4 := (r3.1.1 ++ [r1.1.1])
        some (((-1 : Int), ()), ((x.1.1, (x.1.2.1, (x.1.2.2.1, (x.1.2.2.2.1, (x.1.2.2.2.2.1, (x.1.2.2.2.2.2.1, (x.1.2.2.2.2.2.2.1, (x.1.2.2.2.2.2.2.2.1, (v4, ()))))))))), ()))
      else none
    else
      some (((-1 : Int), ()), (x.1, ()))
  else
    if (x.2.1 == (3 : Int)) then
      (F_impl_Hart_set (x.1, (9 : Int), r1.1.1, ())).bind fun r5 =>
      some (((-1 : Int), ()), (r5.2.1, ()))
    else
      if (x.2.1 == (4 : Int)) then
        (F_impl_Hart_set (x.1, (6 : Int), r1.1.1, ())).bind fun r6 =>
        some (((-1 : Int), ()), (r6.2.1, ()))
      else
        if (x.2.1 == (5 : Int)) then
          some ((r1.1.1, ()), (x.1, ()))
        else
          some (((-1 : Int), ()), (x.1, ()))
abbrev C_impl_Hart_writeDevice : Con := ⟨P_impl_Hart_writeDevice, R_impl_Hart_writeDevice, F_impl_Hart_writeDevice, false⟩
abbrev G_impl_Hart_writeDevice : Env := [(70, C_impl_WrapWord), (139, C_slices_Clone_int64), (266, C_impl_Hart_set)]
theorem g_impl_Hart_writeDevice : EnvOk Tryz.prog G_impl_Hart_writeDevice := (env_cons s_impl_WrapWord (env_cons s_slices_Clone_int64 (env_cons s_impl_Hart_set env_nil)))
theorem r_impl_Hart_writeDevice (x) : runFn T G_impl_Hart_writeDevice [] Tryz.f305 P_impl_Hart_writeDevice R_impl_Hart_writeDevice x = F_impl_Hart_writeDevice x := by kernel_rfl
theorem s_impl_Hart_writeDevice : CallsOk Tryz.prog 305 C_impl_Hart_writeDevice :=
  fn_calls (L := []) hT g_impl_Hart_writeDevice Tryz.f305 (by kernel_rfl) (by kernel_rfl) (by kernel_rfl) (plain_ok (by kernel_rfl)) r_impl_Hart_writeDevice
/-! (*impl.core).store -/
abbrev P_impl_core_store : List PK := [.box [.own 2 YI, .dat YI, .own 2 YI, .dat .bool, .dat .bool, .dat .bool, .dat YI, .own 2 YI, .own 2 YI, .dat Y27, .own 2 YI, .dat YI, .dat YI] [.own 2 YI, .dat YI, .own 2 YI, .dat .bool, .dat .bool, .dat .bool, .dat YI, .own 2 YI, .own 2 YI, .dat Y27, .own 2 YI, .dat YI, .dat YI], .val YI, .val YI]
abbrev R_impl_core_store : List VK := [.s (.dat .bool)]
def F_impl_core_store (x : denP P_impl_core_store) : Option (denV R_impl_core_store × denQ P_impl_core_store) :=
  (F_impl_Hart_place ((x.1.1, (x.1.2.1, (x.1.2.2.1, (x.1.2.2.2.1, (x.1.2.2.2.2.1, (x.1.2.2.2.2.2.1, (x.1.2.2.2.2.2.2.1, (x.1.2.2.2.2.2.2.2.1, (x.1.2.2.2.2.2.2.2.2.1, ()))))))))), x.1.2.2.2.2.2.2.2.2.2.1, x.1.2.2.2.2.2.2.2.2.2.2.1, x.2.1, (2 : Int), ())).bind fun r1 =>
  if (r1.1.1.1 != (0 : Int)) then
    (F_impl_core_fail (x.1, (4 : Int), x.2.1, ())).bind fun r2 =>
    some ((false, ()), (r2.2.1, ()))
  else
    if (leI (1000 : Int) r1.1.1.2.1) then
      let v3 := (IntKind.i64.wrap (r1.1.1.2.1 - (1000 : Int)))
      (F_impl_Hart_writeDevice ((x.1.1, (x.1.2.1, (x.1.2.2.1, (x.1.2.2.2.1, (x.1.2.2.2.2.1, (x.1.2.2.2.2.2.1, (x.1.2.2.2.2.2.2.1, (x.1.2.2.2.2.2.2.2.1, (x.1.2.2.2.2.2.2.2.2.1, ()))))))))), v3, x.2.2.1, ())).bind fun r4 =>
      some ((true, ()), ((r4.2.1.1, (r4.2.1.2.1, (r4.2.1.2.2.1, (r4.2.1.2.2.2.1, (r4.2.1.2.2.2.2.1, (r4.2.1.2.2.2.2.2.1, (r4.2.1.2.2.2.2.2.2.1, (r4.2.1.2.2.2.2.2.2.2.1, (r4.2.1.2.2.2.2.2.2.2.2.1, (x.1.2.2.2.2.2.2.2.2.2.1, (x.1.2.2.2.2.2.2.2.2.2.2.1, (x.1.2.2.2.2.2.2.2.2.2.2.2.1, (r4.1.1, ()))))))))))))), ()))
    else
      if 0 ≤ r1.1.1.2.1 ∧ r1.1.1.2.1 < ((x.1.2.2.2.2.2.2.2.2.2.2.1.length : Nat) : Int) then
        ((x.1.2.2.2.2.2.2.2.2.2.2.1)[(r1.1.1.2.1).toNat]?).bind fun y5 =>
        let v6 := (x.1.2.2.2.2.2.2.2.2.2.2.1.set (r1.1.1.2.1).toNat x.2.2.1)
        some ((true, ()), ((x.1.1, (x.1.2.1, (x.1.2.2.1, (x.1.2.2.2.1, (x.1.2.2.2.2.1, (x.1.2.2.2.2.2.1, (x.1.2.2.2.2.2.2.1, (x.1.2.2.2.2.2.2.2.1, (x.1.2.2.2.2.2.2.2.2.1, (x.1.2.2.2.2.2.2.2.2.2.1, (v6, (x.1.2.2.2.2.2.2.2.2.2.2.2.1, (x.1.2.2.2.2.2.2.2.2.2.2.2.2.1, ()))))))))))))), ()))
      else none
abbrev C_impl_core_store : Con := ⟨P_impl_core_store, R_impl_core_store, F_impl_core_store, false⟩
abbrev G_impl_core_store : Env := [(69, C_impl_Hart_place), (215, C_impl_core_fail), (305, C_impl_Hart_writeDevice)]
theorem g_impl_core_store : EnvOk Tryz.prog G_impl_core_store := (env_cons s_impl_Hart_place (env_cons s_impl_core_fail (env_cons s_impl_Hart_writeDevice env_nil)))
theorem r_impl_core_store (x) : runFn T G_impl_core_store [] Tryz.f263 P_impl_core_store R_impl_core_store x = F_impl_core_store x := by kernel_rfl
theorem s_impl_core_store : CallsOk Tryz.prog 263 C_impl_core_store :=
  fn_calls (L := []) hT g_impl_core_store Tryz.f263 (by kernel_rfl) (by kernel_rfl) (by kernel_rfl) (plain_ok (by kernel_rfl)) r_impl_core_store
/-! impl.SignedOf -/
abbrev P_impl_SignedOf : List PK := [.val YI]
abbrev R_impl_SignedOf : List VK := [.s (.dat YI)]
def F_impl_SignedOf (x : denP P_impl_SignedOf) : Option (denV R_impl_SignedOf × denQ P_impl_SignedOf) :=
  (F_impl_WrapWord (x.1, ())).bind fun r1 =>
  if (ltI r1.1.1 (2147483648 : Int)) then
    some ((r1.1.1, ()), ())
  else
    let v2 := (IntKind.i64.wrap (r1.1.1 - (4294967295 : Int)))
    let v3 := (IntKind.i64.wrap (v2 - (1 : Int)))
    some ((v3, ()), ())
abbrev C_impl_SignedOf : Con := ⟨P_impl_SignedOf, R_impl_SignedOf, F_impl_SignedOf, false⟩
abbrev G_impl_SignedOf : Env := [(70, C_impl_WrapWord)]
theorem g_impl_SignedOf : EnvOk Tryz.prog G_impl_SignedOf := (env_cons s_impl_WrapWord env_nil)
theorem r_impl_SignedOf (x) : runFn T G_impl_SignedOf [] Tryz.f264 P_impl_SignedOf R_impl_SignedOf x = F_impl_SignedOf x := by kernel_rfl
theorem s_impl_SignedOf : CallsOk Tryz.prog 264 C_impl_SignedOf :=
  fn_calls (L := []) hT g_impl_SignedOf Tryz.f264 (by kernel_rfl) (by kernel_rfl) (by kernel_rfl) (plain_ok (by kernel_rfl)) r_impl_SignedOf
/-! (*impl.Hart).get -/
abbrev P_impl_Hart_get : List PK := [.ptr Y25, .val YI]
abbrev R_impl_Hart_get : List VK := [.s (.dat YI)]
def F_impl_Hart_get (x : denP P_impl_Hart_get) : Option (denV R_impl_Hart_get × denQ P_impl_Hart_get) :=
  if (x.2.1 == (6 : Int)) then
    (F_impl_Hart_pending (x.1, ())).bind fun r1 =>
    some ((r1.1.1, ()), ())
  else
    if (x.2.1 == (8 : Int)) then
      some ((x.1.2.2.2.2.2.2.1, ()), ())
    else
      if 0 ≤ x.2.1 then
        ((x.1.2.2.1)[(x.2.1).toNat]?).bind fun y2 =>
        some ((y2, ()), ())
      else none
abbrev C_impl_Hart_get : Con := ⟨P_impl_Hart_get, R_impl_Hart_get, F_impl_Hart_get, false⟩
abbrev G_impl_Hart_get : Env := [(158, C_impl_Hart_pending)]
theorem g_impl_Hart_get : EnvOk Tryz.prog G_impl_Hart_get := (env_cons s_impl_Hart_pending env_nil)
theorem r_impl_Hart_get (x) : runFn T G_impl_Hart_get [] Tryz.f265 P_impl_Hart_get R_impl_Hart_get x = F_impl_Hart_get x := by kernel_rfl
theorem s_impl_Hart_get : CallsOk Tryz.prog 265 C_impl_Hart_get :=
  fn_calls (L := []) hT g_impl_Hart_get Tryz.f265 (by kernel_rfl) (by kernel_rfl) (by kernel_rfl) (plain_ok (by kernel_rfl)) r_impl_Hart_get
/-! (*impl.Hart).back -/
abbrev P_impl_Hart_back : List PK := [.box [.own 2 YI, .dat YI, .own 2 YI, .dat .bool, .dat .bool, .dat .bool, .dat YI, .own 2 YI, .own 2 YI] [.own 2 YI, .dat YI, .own 2 YI, .dat .bool, .dat .bool, .dat .bool, .dat YI, .own 2 YI, .own 2 YI]]
abbrev R_impl_Hart_back : List VK := []
def F_impl_Hart_back (x : denP P_impl_Hart_back) : Option (denV R_impl_Hart_back × denQ P_impl_Hart_back) :=
  if 0 ≤ (2 : Int) ∧ (2 : Int) < ((x.1.2.2.1.length : Nat) : Int) then
    ((x.1.2.2.1)[((2 : Int)).toNat]?).bind fun y1 =>
    if 0 ≤ (0 : Int) ∧ (0 : Int) < ((x.1.2.2.1.length : Nat) : Int) then
      ((x.1.2.2.1)[((0 : Int)).toNat]?).bind fun y2 =>
      let v3 := (IntKind.i64.wrap ((y2).tdiv (2 : Int)))
      let v4 := (IntKind.i64.wrap ((2 : Int) + v3))
      if 0 ≤ (0 : Int) ∧ (0 : Int) < ((x.1.2.2.1.length : Nat) : Int) then
        ((x.1.2.2.1)[((0 : Int)).toNat]?).bind fun y5 =>
        let v6 := (x.1.2.2.1.set ((0 : Int)).toNat v4)
        some ((), ((x.1.1, (y1, (v6, (x.1.2.2.2.1, (x.1.2.2.2.2.1, (x.1.2.2.2.2.2.1, (x.1.2.2.2.2.2.2.1, (x.1.2.2.2.2.2.2.2.1, (x.1.2.2.2.2.2.2.2.2.1, ()))))))))), ()))
      else none
    else none
  else none
abbrev C_impl_Hart_back : Con := ⟨P_impl_Hart_back, R_impl_Hart_back, F_impl_Hart_back, false⟩
abbrev G_impl_Hart_back : Env := []
theorem g_impl_Hart_back : EnvOk Tryz.prog G_impl_Hart_back := env_nil
theorem r_impl_Hart_back (x) : runFn T G_impl_Hart_back [] Tryz.f267 P_impl_Hart_back R_impl_Hart_back x = F_impl_Hart_back x := by kernel_rfl
theorem s_impl_Hart_back : CallsOk Tryz.prog 267 C_impl_Hart_back :=
  fn_calls (L := []) hT g_impl_Hart_back Tryz.f267 (by kernel_rfl) (by kernel_rfl) (by kernel_rfl) (plain_ok (by kernel_rfl)) r_impl_Hart_back
/-! impl.MulWords -/
abbrev P_impl_MulWords : List PK := [.val YI, .val YI]
abbrev R_impl_MulWords : List VK := [.s (.dat YI)]
def F_impl_MulWords (x : denP P_impl_MulWords) : Option (denV R_impl_MulWords × denQ P_impl_MulWords) :=
  let v1 := (IntKind.u32.wrap x.1)
  let v2 := (IntKind.u32.wrap x.2.1)
  let v3 := (IntKind.u32.wrap (v1 * v2))
  let v4 := (IntKind.i64.wrap v3)
  some ((v4, ()), ())
abbrev C_impl_MulWords : Con := ⟨P_impl_MulWords, R_impl_MulWords, F_impl_MulWords, false⟩
abbrev G_impl_MulWords : Env := []
theorem g_impl_MulWords : EnvOk Tryz.prog G_impl_MulWords := env_nil
theorem r_impl_MulWords (x) : runFn T G_impl_MulWords [] Tryz.f306 P_impl_MulWords R_impl_MulWords x = F_impl_MulWords x := by kernel_rfl
theorem s_impl_MulWords : CallsOk Tryz.prog 306 C_impl_MulWords :=
  fn_calls (L := []) hT g_impl_MulWords Tryz.f306 (by kernel_rfl) (by kernel_rfl) (by kernel_rfl) (plain_ok (by kernel_rfl)) r_impl_MulWords
/-! impl.DivWords -/
abbrev P_impl_DivWords : List PK := [.val YI, .val YI]
abbrev R_impl_DivWords : List VK := [.s (.dat YI)]
def F_impl_DivWords (x : denP P_impl_DivWords) : Option (denV R_impl_DivWords × denQ P_impl_DivWords) :=
  (F_impl_SignedOf (x.1, ())).bind fun r1 =>
  (F_impl_SignedOf (x.2.1, ())).bind fun r2 =>
  if (r2.1.1 == (0 : Int)) then
    some (((4294967295 : Int), ()), ())
  else
    if r2.1.1 = 0 then none else
    let v3 := (IntKind.i64.wrap ((r1.1.1).tdiv r2.1.1))
    (F_impl_WrapWord (v3, ())).bind fun r4 =>
    some ((r4.1.1, ()), ())
abbrev C_impl_DivWords : Con := ⟨P_impl_DivWords, R_impl_DivWords, F_impl_DivWords, false⟩
abbrev G_impl_DivWords : Env := [(70, C_impl_WrapWord), (264, C_impl_SignedOf)]
theorem g_impl_DivWords : EnvOk Tryz.prog G_impl_DivWords := (env_cons s_impl_WrapWord (env_cons s_impl_SignedOf env_nil))
theorem r_impl_DivWords (x) : runFn T G_impl_DivWords [] Tryz.f307 P_impl_DivWords R_impl_DivWords x = F_impl_DivWords x := by kernel_rfl
theorem s_impl_DivWords : CallsOk Tryz.prog 307 C_impl_DivWords :=
  fn_calls (L := []) hT g_impl_DivWords Tryz.f307 (by kernel_rfl) (by kernel_rfl) (by kernel_rfl) (plain_ok (by kernel_rfl)) r_impl_DivWords
/-! impl.RemWords -/
abbrev P_impl_RemWords : List PK := [.val YI, .val YI]
abbrev R_impl_RemWords : List VK := [.s (.dat YI)]
def F_impl_RemWords (x : denP P_impl_RemWords) : Option (denV R_impl_RemWords × denQ P_impl_RemWords) :=
  (F_impl_SignedOf (x.1, ())).bind fun r1 =>
  (F_impl_SignedOf (x.2.1, ())).bind fun r2 =>
  if (r2.1.1 == (0 : Int)) then
    (F_impl_WrapWord (x.1, ())).bind fun r3 =>
    some ((r3.1.1, ()), ())
  else
    if r2.1.1 = 0 then none else
    let v4 := ((r1.1.1).tmod r2.1.1)
    (F_impl_WrapWord (v4, ())).bind fun r5 =>
    some ((r5.1.1, ()), ())
abbrev C_impl_RemWords : Con := ⟨P_impl_RemWords, R_impl_RemWords, F_impl_RemWords, false⟩
abbrev G_impl_RemWords : Env := [(70, C_impl_WrapWord), (264, C_impl_SignedOf)]
theorem g_impl_RemWords : EnvOk Tryz.prog G_impl_RemWords := (env_cons s_impl_WrapWord (env_cons s_impl_SignedOf env_nil))
theorem r_impl_RemWords (x) : runFn T G_impl_RemWords [] Tryz.f308 P_impl_RemWords R_impl_RemWords x = F_impl_RemWords x := by kernel_rfl
theorem s_impl_RemWords : CallsOk Tryz.prog 308 C_impl_RemWords :=
  fn_calls (L := []) hT g_impl_RemWords Tryz.f308 (by kernel_rfl) (by kernel_rfl) (by kernel_rfl) (plain_ok (by kernel_rfl)) r_impl_RemWords
/-! impl.BitWords -/
abbrev P_impl_BitWords : List PK := [.val YI, .val YI, .val YI]
abbrev R_impl_BitWords : List VK := [.s (.dat Y40)]
def F_impl_BitWords (x : denP P_impl_BitWords) : Option (denV R_impl_BitWords × denQ P_impl_BitWords) :=
  (F_impl_WrapWord (x.2.1, ())).bind fun r1 =>
  (F_impl_WrapWord (x.2.2.1, ())).bind fun r2 =>
  if (x.1 == (1 : Int)) then
    let v3 := (iand .i64 r1.1.1 r2.1.1)
    some ((((0 : Int), (v3, ())), ()), ())
  else
    if (x.1 == (2 : Int)) then
      let v4 := (ior .i64 r1.1.1 r2.1.1)
      some ((((0 : Int), (v4, ())), ()), ())
    else
      if (x.1 == (3 : Int)) then
        let v5 := (ixor .i64 r1.1.1 r2.1.1)
        some ((((0 : Int), (v5, ())), ()), ())
      else
        some ((((3 : Int), ((0 : Int), ())), ()), ())
abbrev C_impl_BitWords : Con := ⟨P_impl_BitWords, R_impl_BitWords, F_impl_BitWords, false⟩
abbrev G_impl_BitWords : Env := [(70, C_impl_WrapWord)]
theorem g_impl_BitWords : EnvOk Tryz.prog G_impl_BitWords := (env_cons s_impl_WrapWord env_nil)
theorem r_impl_BitWords (x) : runFn T G_impl_BitWords [] Tryz.f309 P_impl_BitWords R_impl_BitWords x = F_impl_BitWords x := by kernel_rfl
theorem s_impl_BitWords : CallsOk Tryz.prog 309 C_impl_BitWords :=
  fn_calls (L := []) hT g_impl_BitWords Tryz.f309 (by kernel_rfl) (by kernel_rfl) (by kernel_rfl) (plain_ok (by kernel_rfl)) r_impl_BitWords
/-! impl.ShiftWord -/
abbrev P_impl_ShiftWord : List PK := [.val YI, .val YI, .val .bool]
abbrev R_impl_ShiftWord : List VK := [.s (.dat YI)]
def F_impl_ShiftWord (x : denP P_impl_ShiftWord) : Option (denV R_impl_ShiftWord × denQ P_impl_ShiftWord) :=
  (F_impl_WrapWord (x.1, ())).bind fun r1 =>
  (F_impl_WrapWord (x.2.1, ())).bind fun r2 =>
  let v3 := ((r2.1.1).tmod (32 : Int))
  if x.2.2.1 then
    if v3 < 0 then none else
    let v4 := (IntKind.i64.wrap (r1.1.1 * 2 ^ (min (v3).toNat 64)))
    (F_impl_WrapWord (v4, ())).bind fun r5 =>
    some ((r5.1.1, ()), ())
  else
    if v3 < 0 then none else
    let v6 := ((r1.1.1).fdiv (2 ^ (min (v3).toNat 64)))
    some ((v6, ()), ())
abbrev C_impl_ShiftWord : Con := ⟨P_impl_ShiftWord, R_impl_ShiftWord, F_impl_ShiftWord, false⟩
abbrev G_impl_ShiftWord : Env := [(70, C_impl_WrapWord)]
theorem g_impl_ShiftWord : EnvOk Tryz.prog G_impl_ShiftWord := (env_cons s_impl_WrapWord env_nil)
theorem r_impl_ShiftWord (x) : runFn T G_impl_ShiftWord [] Tryz.f310 P_impl_ShiftWord R_impl_ShiftWord x = F_impl_ShiftWord x := by kernel_rfl
theorem s_impl_ShiftWord : CallsOk Tryz.prog 310 C_impl_ShiftWord :=
  fn_calls (L := []) hT g_impl_ShiftWord Tryz.f310 (by kernel_rfl) (by kernel_rfl) (by kernel_rfl) (plain_ok (by kernel_rfl)) r_impl_ShiftWord
/-! impl.AluOf -/
abbrev P_impl_AluOf : List PK := [.val YI, .val YI, .val YI]
abbrev R_impl_AluOf : List VK := [.s (.dat Y40)]
def F_impl_AluOf (x : denP P_impl_AluOf) : Option (denV R_impl_AluOf × denQ P_impl_AluOf) :=
  (F_impl_WrapWord (x.2.1, ())).bind fun r1 =>
  (F_impl_WrapWord (x.2.2.1, ())).bind fun r2 =>
  if (x.1 == (1 : Int)) then
    (F_impl_AddWords (r1.1.1, r2.1.1, ())).bind fun r3 =>
    some ((((0 : Int), (r3.1.1, ())), ()), ())
  else
    if (x.1 == (2 : Int)) then
      let v4 := (IntKind.i64.wrap (r1.1.1 - r2.1.1))
      (F_impl_WrapWord (v4, ())).bind fun r5 =>
      some ((((0 : Int), (r5.1.1, ())), ()), ())
    else
      if (x.1 == (3 : Int)) then
        (F_impl_MulWords (r1.1.1, r2.1.1, ())).bind fun r6 =>
        some ((((0 : Int), (r6.1.1, ())), ()), ())
      else
        if (x.1 == (4 : Int)) then
          (F_impl_DivWords (r1.1.1, r2.1.1, ())).bind fun r7 =>
          some ((((0 : Int), (r7.1.1, ())), ()), ())
        else
          if (x.1 == (5 : Int)) then
            (F_impl_RemWords (r1.1.1, r2.1.1, ())).bind fun r8 =>
            some ((((0 : Int), (r8.1.1, ())), ()), ())
          else
            if (x.1 == (6 : Int)) then
              let v9 := (IntKind.i64.wrap (x.1 - (6 : Int)))
              let v10 := (IntKind.i64.wrap (v9 + (1 : Int)))
              (F_impl_BitWords (v10, r1.1.1, r2.1.1, ())).bind fun r11 =>
              some ((r11.1.1, ()), ())
            else
              if (x.1 == (7 : Int)) then
                let v12 := (IntKind.i64.wrap (x.1 - (6 : Int)))
                let v13 := (IntKind.i64.wrap (v12 + (1 : Int)))
                (F_impl_BitWords (v13, r1.1.1, r2.1.1, ())).bind fun r14 =>
                some ((r14.1.1, ()), ())
              else
                if (x.1 == (8 : Int)) then
                  let v15 := (IntKind.i64.wrap (x.1 - (6 : Int)))
                  let v16 := (IntKind.i64.wrap (v15 + (1 : Int)))
                  (F_impl_BitWords (v16, r1.1.1, r2.1.1, ())).bind fun r17 =>
                  some ((r17.1.1, ()), ())
                else
                  if (x.1 == (9 : Int)) then
                    (F_impl_ShiftWord (r1.1.1, r2.1.1, (x.1 == (9 : Int)), ())).bind fun r18 =>
                    some ((((0 : Int), (r18.1.1, ())), ()), ())
                  else
                    if (x.1 == (10 : Int)) then
                      (F_impl_ShiftWord (r1.1.1, r2.1.1, (x.1 == (9 : Int)), ())).bind fun r19 =>
                      some ((((0 : Int), (r19.1.1, ())), ()), ())
                    else
                      if (x.1 == (11 : Int)) then
                        (F_impl_SignedOf (r1.1.1, ())).bind fun r20 =>
                        (F_impl_SignedOf (r2.1.1, ())).bind fun r21 =>
                        if (ltI r20.1.1 r21.1.1) then
                          some ((((0 : Int), ((1 : Int), ())), ()), ())
                        else
                          some ((((0 : Int), ((0 : Int), ())), ()), ())
                      else
                        some ((((3 : Int), ((0 : Int), ())), ()), ())
abbrev C_impl_AluOf : Con := ⟨P_impl_AluOf, R_impl_AluOf, F_impl_AluOf, false⟩
abbrev G_impl_AluOf : Env := [(27, C_impl_AddWords), (70, C_impl_WrapWord), (264, C_impl_SignedOf), (306, C_impl_MulWords), (307, C_impl_DivWords), (308, C_impl_RemWords), (309, C_impl_BitWords), (310, C_impl_ShiftWord)]
theorem g_impl_AluOf : EnvOk Tryz.prog G_impl_AluOf := (env_cons s_impl_AddWords (env_cons s_impl_WrapWord (env_cons s_impl_SignedOf (env_cons s_impl_MulWords (env_cons s_impl_DivWords (env_cons s_impl_RemWords (env_cons s_impl_BitWords (env_cons s_impl_ShiftWord env_nil))))))))
theorem r_impl_AluOf (x) : runFn T G_impl_AluOf [] Tryz.f268 P_impl_AluOf R_impl_AluOf x = F_impl_AluOf x := by kernel_rfl
theorem s_impl_AluOf : CallsOk Tryz.prog 268 C_impl_AluOf :=
  fn_calls (L := []) hT g_impl_AluOf Tryz.f268 (by kernel_rfl) (by kernel_rfl) (by kernel_rfl) (plain_ok (by kernel_rfl)) r_impl_AluOf
/-! impl.WritesD -/
abbrev P_impl_WritesD : List PK := [.val YI]
abbrev R_impl_WritesD : List VK := [.s (.dat .bool)]
def F_impl_WritesD (x : denP P_impl_WritesD) : Option (denV R_impl_WritesD × denQ P_impl_WritesD) :=
  (F_impl_within (x.1, (1 : Int), (14 : Int), ())).bind fun r1 =>
  if r1.1.1 = false then
    (F_impl_within (x.1, (19 : Int), (21 : Int), ())).bind fun r2 =>
    some ((r2.1.1, ()), ())
  else
    some ((true, ()), ())
abbrev C_impl_WritesD : Con := ⟨P_impl_WritesD, R_impl_WritesD, F_impl_WritesD, false⟩
abbrev G_impl_WritesD : Env := [(56, C_impl_within)]
theorem g_impl_WritesD : EnvOk Tryz.prog G_impl_WritesD := (env_cons s_impl_within env_nil)
theorem r_impl_WritesD (x) : runFn T G_impl_WritesD [] Tryz.f269 P_impl_WritesD R_impl_WritesD x = F_impl_WritesD x := by kernel_rfl
theorem s_impl_WritesD : CallsOk Tryz.prog 269 C_impl_WritesD :=
  fn_calls (L := []) hT g_impl_WritesD Tryz.f269 (by kernel_rfl) (by kernel_rfl) (by kernel_rfl) (plain_ok (by kernel_rfl)) r_impl_WritesD
/-! (*impl.core).do -/
abbrev P_impl_core_do : List PK := [.box [.own 2 YI, .dat YI, .own 2 YI, .dat .bool, .dat .bool, .dat .bool, .dat YI, .own 2 YI, .own 2 YI, .dat Y27, .own 2 YI, .dat YI, .dat YI] [.own 2 YI, .dat YI, .own 2 YI, .dat .bool, .dat .bool, .dat .bool, .dat YI, .own 2 YI, .own 2 YI, .dat Y27, .own 2 YI, .dat YI, .dat YI], .val Y42]
abbrev R_impl_core_do : List VK := [.s (.dat .bool)]
abbrev i_impl_core_do_100000 : Shp := { slots := [(0, .s (.ptr 9000000 0)), (3, .s (.ptr 3 0)), (5, .s (.dat YI)), (6, .s (.dat YI)), (7, .s (.dat YI)), (8, .s (.dat YI)), (9, .s (.dat YI)), (10, .s (.dat YI)), (11, .s (.dat YI)), (12, .s (.dat YI)), (56, .s (.dat YI))], boxes := [(3, [.dat YI, .dat YI, .dat YI, .dat YI]), (9000000, [.own 2 YI, .dat YI, .own 2 YI, .dat .bool, .dat .bool, .dat .bool, .dat YI, .own 2 YI, .own 2 YI, .dat Y27, .own 2 YI, .dat YI, .dat YI])], rows := [] }
abbrev o_impl_core_do_100000 : List (Ex × Shp) := [(.normal, { slots := [(0, .s (.ptr 9000000 0)), (3, .s (.ptr 3 0)), (6, .s (.dat YI)), (11, .s (.dat YI))], boxes := [(3, [.dat YI, .dat YI, .dat YI, .dat YI]), (9000000, [.own 2 YI, .dat YI, .own 2 YI, .dat .bool, .dat .bool, .dat .bool, .dat YI, .own 2 YI, .own 2 YI, .dat Y27, .own 2 YI, .dat YI, .dat YI])], rows := [] }), (.ret, { slots := [(4, .s (.dat .bool))], boxes := [(9000000, [.own 2 YI, .dat YI, .own 2 YI, .dat .bool, .dat .bool, .dat .bool, .dat YI, .own 2 YI, .own 2 YI, .dat Y27, .own 2 YI, .dat YI, .dat YI])], rows := [] })]
def L_impl_core_do_100000 (u100000 : i_impl_core_do_100000.den) : Option (denO o_impl_core_do_100000) :=
  if (u100000.1.2.2.2.2.2.2.2.2.2.2.1 == (12 : Int)) then
    some (.inl (((), ((), (u100000.1.2.2.2.1, (u100000.1.2.2.2.2.2.2.2.1, ())))), ((u100000.2.1.1, (u100000.2.1.2.1, ())), ())))
  else
    if (u100000.1.2.2.2.2.2.2.2.2.2.2.1 == (13 : Int)) then
      let v40 := (IntKind.i64.wrap (u100000.2.1.1.2.2.2.1 * (65536 : Int)))
      some (.inl (((), ((), (u100000.1.2.2.2.1, (v40, ())))), ((u100000.2.1.1, (u100000.2.1.2.1, ())), ())))
    else
      if (u100000.1.2.2.2.2.2.2.2.2.2.2.1 == (14 : Int)) then
        (F_impl_core_load (u100000.2.1.2.1, u100000.1.2.2.2.2.2.2.2.1, ())).bind fun r41 =>
        if (!r41.1.2.1) then
          some (.inr (.inl ((false, ()), ((r41.2.1, ()), ()))))
        else
          some (.inl (((), ((), (u100000.1.2.2.2.1, (r41.1.1, ())))), ((u100000.2.1.1, (r41.2.1, ())), ())))
      else
        if (u100000.1.2.2.2.2.2.2.2.2.2.2.1 == (15 : Int)) then
          (F_impl_core_store (u100000.2.1.2.1, u100000.1.2.2.2.2.2.2.2.1, u100000.1.2.2.2.2.2.1, ())).bind fun r42 =>
          if (!r42.1.1) then
            some (.inr (.inl ((false, ()), ((r42.2.1, ()), ()))))
          else
            some (.inl (((), ((), (u100000.1.2.2.2.1, (u100000.1.2.2.2.2.2.2.2.2.1, ())))), ((u100000.2.1.1, (r42.2.1, ())), ())))
        else
          if (u100000.1.2.2.2.2.2.2.2.2.2.2.1 == (16 : Int)) then
            if (u100000.1.2.2.2.2.2.2.2.2.2.1 == (16 : Int)) = true then
              if (u100000.1.2.2.2.2.2.1 == u100000.1.2.2.2.2.2.2.1) = false then
                if (u100000.1.2.2.2.2.2.2.2.2.2.1 == (17 : Int)) = true then
                  if (u100000.1.2.2.2.2.2.1 != u100000.1.2.2.2.2.2.2.1) = false then
                    if (u100000.1.2.2.2.2.2.2.2.2.2.1 == (18 : Int)) = true then
                      (F_impl_SignedOf (u100000.1.2.2.2.2.2.1, ())).bind fun r43 =>
                      (F_impl_SignedOf (u100000.1.2.2.2.2.2.2.1, ())).bind fun r44 =>
                      if (ltI r43.1.1 r44.1.1) then
                        some (.inl (((), ((), (u100000.1.2.2.2.2.1, (u100000.1.2.2.2.2.2.2.2.2.1, ())))), ((u100000.2.1.1, (u100000.2.1.2.1, ())), ())))
                      else
                        some (.inl (((), ((), (u100000.1.2.2.2.1, (u100000.1.2.2.2.2.2.2.2.2.1, ())))), ((u100000.2.1.1, (u100000.2.1.2.1, ())), ())))
                    else
                      some (.inl (((), ((), (u100000.1.2.2.2.1, (u100000.1.2.2.2.2.2.2.2.2.1, ())))), ((u100000.2.1.1, (u100000.2.1.2.1, ())), ())))
                  else
                    some (.inl (((), ((), (u100000.1.2.2.2.2.1, (u100000.1.2.2.2.2.2.2.2.2.1, ())))), ((u100000.2.1.1, (u100000.2.1.2.1, ())), ())))
                else
                  if (u100000.1.2.2.2.2.2.2.2.2.2.1 == (18 : Int)) = true then
                    (F_impl_SignedOf (u100000.1.2.2.2.2.2.1, ())).bind fun r45 =>
                    (F_impl_SignedOf (u100000.1.2.2.2.2.2.2.1, ())).bind fun r46 =>
                    if (ltI r45.1.1 r46.1.1) then
                      some (.inl (((), ((), (u100000.1.2.2.2.2.1, (u100000.1.2.2.2.2.2.2.2.2.1, ())))), ((u100000.2.1.1, (u100000.2.1.2.1, ())), ())))
                    else
                      some (.inl (((), ((), (u100000.1.2.2.2.1, (u100000.1.2.2.2.2.2.2.2.2.1, ())))), ((u100000.2.1.1, (u100000.2.1.2.1, ())), ())))
                  else
                    some (.inl (((), ((), (u100000.1.2.2.2.1, (u100000.1.2.2.2.2.2.2.2.2.1, ())))), ((u100000.2.1.1, (u100000.2.1.2.1, ())), ())))
              else
                some (.inl (((), ((), (u100000.1.2.2.2.2.1, (u100000.1.2.2.2.2.2.2.2.2.1, ())))), ((u100000.2.1.1, (u100000.2.1.2.1, ())), ())))
            else
              if (u100000.1.2.2.2.2.2.2.2.2.2.1 == (17 : Int)) = true then
                if (u100000.1.2.2.2.2.2.1 != u100000.1.2.2.2.2.2.2.1) = false then
                  if (u100000.1.2.2.2.2.2.2.2.2.2.1 == (18 : Int)) = true then
                    (F_impl_SignedOf (u100000.1.2.2.2.2.2.1, ())).bind fun r47 =>
                    (F_impl_SignedOf (u100000.1.2.2.2.2.2.2.1, ())).bind fun r48 =>
                    if (ltI r47.1.1 r48.1.1) then
                      some (.inl (((), ((), (u100000.1.2.2.2.2.1, (u100000.1.2.2.2.2.2.2.2.2.1, ())))), ((u100000.2.1.1, (u100000.2.1.2.1, ())), ())))
                    else
                      some (.inl (((), ((), (u100000.1.2.2.2.1, (u100000.1.2.2.2.2.2.2.2.2.1, ())))), ((u100000.2.1.1, (u100000.2.1.2.1, ())), ())))
                  else
                    some (.inl (((), ((), (u100000.1.2.2.2.1, (u100000.1.2.2.2.2.2.2.2.2.1, ())))), ((u100000.2.1.1, (u100000.2.1.2.1, ())), ())))
                else
                  some (.inl (((), ((), (u100000.1.2.2.2.2.1, (u100000.1.2.2.2.2.2.2.2.2.1, ())))), ((u100000.2.1.1, (u100000.2.1.2.1, ())), ())))
              else
                if (u100000.1.2.2.2.2.2.2.2.2.2.1 == (18 : Int)) = true then
                  (F_impl_SignedOf (u100000.1.2.2.2.2.2.1, ())).bind fun r49 =>
                  (F_impl_SignedOf (u100000.1.2.2.2.2.2.2.1, ())).bind fun r50 =>
                  if (ltI r49.1.1 r50.1.1) then
                    some (.inl (((), ((), (u100000.1.2.2.2.2.1, (u100000.1.2.2.2.2.2.2.2.2.1, ())))), ((u100000.2.1.1, (u100000.2.1.2.1, ())), ())))
                  else
                    some (.inl (((), ((), (u100000.1.2.2.2.1, (u100000.1.2.2.2.2.2.2.2.2.1, ())))), ((u100000.2.1.1, (u100000.2.1.2.1, ())), ())))
                else
                  some (.inl (((), ((), (u100000.1.2.2.2.1, (u100000.1.2.2.2.2.2.2.2.2.1, ())))), ((u100000.2.1.1, (u100000.2.1.2.1, ())), ())))
          else
            if (u100000.1.2.2.2.2.2.2.2.2.2.2.1 == (17 : Int)) then
              if (u100000.1.2.2.2.2.2.2.2.2.2.1 == (16 : Int)) = true then
                if (u100000.1.2.2.2.2.2.1 == u100000.1.2.2.2.2.2.2.1) = false then
                  if (u100000.1.2.2.2.2.2.2.2.2.2.1 == (17 : Int)) = true then
                    if (u100000.1.2.2.2.2.2.1 != u100000.1.2.2.2.2.2.2.1) = false then
                      if (u100000.1.2.2.2.2.2.2.2.2.2.1 == (18 : Int)) = true then
                        (F_impl_SignedOf (u100000.1.2.2.2.2.2.1, ())).bind fun r51 =>
                        (F_impl_SignedOf (u100000.1.2.2.2.2.2.2.1, ())).bind fun r52 =>
                        if (ltI r51.1.1 r52.1.1) then
                          some (.inl (((), ((), (u100000.1.2.2.2.2.1, (u100000.1.2.2.2.2.2.2.2.2.1, ())))), ((u100000.2.1.1, (u100000.2.1.2.1, ())), ())))
                        else
                          some (.inl (((), ((), (u100000.1.2.2.2.1, (u100000.1.2.2.2.2.2.2.2.2.1, ())))), ((u100000.2.1.1, (u100000.2.1.2.1, ())), ())))
                      else
                        some (.inl (((), ((), (u100000.1.2.2.2.1, (u100000.1.2.2.2.2.2.2.2.2.1, ())))), ((u100000.2.1.1, (u100000.2.1.2.1, ())), ())))
                    else
                      some (.inl (((), ((), (u100000.1.2.2.2.2.1, (u100000.1.2.2.2.2.2.2.2.2.1, ())))), ((u100000.2.1.1, (u100000.2.1.2.1, ())), ())))
                  else
                    if (u100000.1.2.2.2.2.2.2.2.2.2.1 == (18 : Int)) = true then
                      (F_impl_SignedOf (u100000.1.2.2.2.2.2.1, ())).bind fun r53 =>
                      (F_impl_SignedOf (u100000.1.2.2.2.2.2.2.1, ())).bind fun r54 =>
                      if (ltI r53.1.1 r54.1.1) then
                        some (.inl (((), ((), (u100000.1.2.2.2.2.1, (u100000.1.2.2.2.2.2.2.2.2.1, ())))), ((u100000.2.1.1, (u100000.2.1.2.1, ())), ())))
                      else
                        some (.inl (((), ((), (u100000.1.2.2.2.1, (u100000.1.2.2.2.2.2.2.2.2.1, ())))), ((u100000.2.1.1, (u100000.2.1.2.1, ())), ())))
                    else
                      some (.inl (((), ((), (u100000.1.2.2.2.1, (u100000.1.2.2.2.2.2.2.2.2.1, ())))), ((u100000.2.1.1, (u100000.2.1.2.1, ())), ())))
                else
                  some (.inl (((), ((), (u100000.1.2.2.2.2.1, (u100000.1.2.2.2.2.2.2.2.2.1, ())))), ((u100000.2.1.1, (u100000.2.1.2.1, ())), ())))
              else
                if (u100000.1.2.2.2.2.2.2.2.2.2.1 == (17 : Int)) = true then
                  if (u100000.1.2.2.2.2.2.1 != u100000.1.2.2.2.2.2.2.1) = false then
                    if (u100000.1.2.2.2.2.2.2.2.2.2.1 == (18 : Int)) = true then
                      (F_impl_SignedOf (u100000.1.2.2.2.2.2.1, ())).bind fun r55 =>
                      (F_impl_SignedOf (u100000.1.2.2.2.2.2.2.1, ())).bind fun r56 =>
                      if (ltI r55.1.1 r56.1.1) then
                        some (.inl (((), ((), (u100000.1.2.2.2.2.1, (u100000.1.2.2.2.2.2.2.2.2.1, ())))), ((u100000.2.1.1, (u100000.2.1.2.1, ())), ())))
                      else
                        some (.inl (((), ((), (u100000.1.2.2.2.1, (u100000.1.2.2.2.2.2.2.2.2.1, ())))), ((u100000.2.1.1, (u100000.2.1.2.1, ())), ())))
                    else
                      some (.inl (((), ((), (u100000.1.2.2.2.1, (u100000.1.2.2.2.2.2.2.2.2.1, ())))), ((u100000.2.1.1, (u100000.2.1.2.1, ())), ())))
                  else
                    some (.inl (((), ((), (u100000.1.2.2.2.2.1, (u100000.1.2.2.2.2.2.2.2.2.1, ())))), ((u100000.2.1.1, (u100000.2.1.2.1, ())), ())))
                else
                  if (u100000.1.2.2.2.2.2.2.2.2.2.1 == (18 : Int)) = true then
                    (F_impl_SignedOf (u100000.1.2.2.2.2.2.1, ())).bind fun r57 =>
                    (F_impl_SignedOf (u100000.1.2.2.2.2.2.2.1, ())).bind fun r58 =>
                    if (ltI r57.1.1 r58.1.1) then
                      some (.inl (((), ((), (u100000.1.2.2.2.2.1, (u100000.1.2.2.2.2.2.2.2.2.1, ())))), ((u100000.2.1.1, (u100000.2.1.2.1, ())), ())))
                    else
                      some (.inl (((), ((), (u100000.1.2.2.2.1, (u100000.1.2.2.2.2.2.2.2.2.1, ())))), ((u100000.2.1.1, (u100000.2.1.2.1, ())), ())))
                  else
                    some (.inl (((), ((), (u100000.1.2.2.2.1, (u100000.1.2.2.2.2.2.2.2.2.1, ())))), ((u100000.2.1.1, (u100000.2.1.2.1, ())), ())))
            else
              if (u100000.1.2.2.2.2.2.2.2.2.2.2.1 == (18 : Int)) then
                if (u100000.1.2.2.2.2.2.2.2.2.2.1 == (16 : Int)) = true then
                  if (u100000.1.2.2.2.2.2.1 == u100000.1.2.2.2.2.2.2.1) = false then
                    if (u100000.1.2.2.2.2.2.2.2.2.2.1 == (17 : Int)) = true then
                      if (u100000.1.2.2.2.2.2.1 != u100000.1.2.2.2.2.2.2.1) = false then
                        if (u100000.1.2.2.2.2.2.2.2.2.2.1 == (18 : Int)) = true then
                          (F_impl_SignedOf (u100000.1.2.2.2.2.2.1, ())).bind fun r59 =>
                          (F_impl_SignedOf (u100000.1.2.2.2.2.2.2.1, ())).bind fun r60 =>
                          if (ltI r59.1.1 r60.1.1) then
                            some (.inl (((), ((), (u100000.1.2.2.2.2.1, (u100000.1.2.2.2.2.2.2.2.2.1, ())))), ((u100000.2.1.1, (u100000.2.1.2.1, ())), ())))
                          else
                            some (.inl (((), ((), (u100000.1.2.2.2.1, (u100000.1.2.2.2.2.2.2.2.2.1, ())))), ((u100000.2.1.1, (u100000.2.1.2.1, ())), ())))
                        else
                          some (.inl (((), ((), (u100000.1.2.2.2.1, (u100000.1.2.2.2.2.2.2.2.2.1, ())))), ((u100000.2.1.1, (u100000.2.1.2.1, ())), ())))
                      else
                        some (.inl (((), ((), (u100000.1.2.2.2.2.1, (u100000.1.2.2.2.2.2.2.2.2.1, ())))), ((u100000.2.1.1, (u100000.2.1.2.1, ())), ())))
                    else
                      if (u100000.1.2.2.2.2.2.2.2.2.2.1 == (18 : Int)) = true then
                        (F_impl_SignedOf (u100000.1.2.2.2.2.2.1, ())).bind fun r61 =>
                        (F_impl_SignedOf (u100000.1.2.2.2.2.2.2.1, ())).bind fun r62 =>
                        if (ltI r61.1.1 r62.1.1) then
                          some (.inl (((), ((), (u100000.1.2.2.2.2.1, (u100000.1.2.2.2.2.2.2.2.2.1, ())))), ((u100000.2.1.1, (u100000.2.1.2.1, ())), ())))
                        else
                          some (.inl (((), ((), (u100000.1.2.2.2.1, (u100000.1.2.2.2.2.2.2.2.2.1, ())))), ((u100000.2.1.1, (u100000.2.1.2.1, ())), ())))
                      else
                        some (.inl (((), ((), (u100000.1.2.2.2.1, (u100000.1.2.2.2.2.2.2.2.2.1, ())))), ((u100000.2.1.1, (u100000.2.1.2.1, ())), ())))
                  else
                    some (.inl (((), ((), (u100000.1.2.2.2.2.1, (u100000.1.2.2.2.2.2.2.2.2.1, ())))), ((u100000.2.1.1, (u100000.2.1.2.1, ())), ())))
                else
                  if (u100000.1.2.2.2.2.2.2.2.2.2.1 == (17 : Int)) = true then
                    if (u100000.1.2.2.2.2.2.1 != u100000.1.2.2.2.2.2.2.1) = false then
                      if (u100000.1.2.2.2.2.2.2.2.2.2.1 == (18 : Int)) = true then
                        (F_impl_SignedOf (u100000.1.2.2.2.2.2.1, ())).bind fun r63 =>
                        (F_impl_SignedOf (u100000.1.2.2.2.2.2.2.1, ())).bind fun r64 =>
                        if (ltI r63.1.1 r64.1.1) then
                          some (.inl (((), ((), (u100000.1.2.2.2.2.1, (u100000.1.2.2.2.2.2.2.2.2.1, ())))), ((u100000.2.1.1, (u100000.2.1.2.1, ())), ())))
                        else
                          some (.inl (((), ((), (u100000.1.2.2.2.1, (u100000.1.2.2.2.2.2.2.2.2.1, ())))), ((u100000.2.1.1, (u100000.2.1.2.1, ())), ())))
                      else
                        some (.inl (((), ((), (u100000.1.2.2.2.1, (u100000.1.2.2.2.2.2.2.2.2.1, ())))), ((u100000.2.1.1, (u100000.2.1.2.1, ())), ())))
                    else
                      some (.inl (((), ((), (u100000.1.2.2.2.2.1, (u100000.1.2.2.2.2.2.2.2.2.1, ())))), ((u100000.2.1.1, (u100000.2.1.2.1, ())), ())))
                  else
                    if (u100000.1.2.2.2.2.2.2.2.2.2.1 == (18 : Int)) = true then
                      (F_impl_SignedOf (u100000.1.2.2.2.2.2.1, ())).bind fun r65 =>
                      (F_impl_SignedOf (u100000.1.2.2.2.2.2.2.1, ())).bind fun r66 =>
                      if (ltI r65.1.1 r66.1.1) then
                        some (.inl (((), ((), (u100000.1.2.2.2.2.1, (u100000.1.2.2.2.2.2.2.2.2.1, ())))), ((u100000.2.1.1, (u100000.2.1.2.1, ())), ())))
                      else
                        some (.inl (((), ((), (u100000.1.2.2.2.1, (u100000.1.2.2.2.2.2.2.2.2.1, ())))), ((u100000.2.1.1, (u100000.2.1.2.1, ())), ())))
                    else
                      some (.inl (((), ((), (u100000.1.2.2.2.1, (u100000.1.2.2.2.2.2.2.2.2.1, ())))), ((u100000.2.1.1, (u100000.2.1.2.1, ())), ())))
              else
                if (u100000.1.2.2.2.2.2.2.2.2.2.2.1 == (19 : Int)) then
                  some (.inl (((), ((), (u100000.1.2.2.2.2.1, (u100000.1.2.2.2.1, ())))), ((u100000.2.1.1, (u100000.2.1.2.1, ())), ())))
                else
                  if (u100000.1.2.2.2.2.2.2.2.2.2.2.1 == (20 : Int)) then
                    some (.inl (((), ((), (u100000.1.2.2.2.2.2.2.2.1, (u100000.1.2.2.2.1, ())))), ((u100000.2.1.1, (u100000.2.1.2.1, ())), ())))
                  else
                    if (u100000.1.2.2.2.2.2.2.2.2.2.2.1 == (21 : Int)) then
                      (F_impl_Hart_get ((u100000.2.1.2.1.1, (u100000.2.1.2.1.2.1, (u100000.2.1.2.1.2.2.1, (u100000.2.1.2.1.2.2.2.1, (u100000.2.1.2.1.2.2.2.2.1, (u100000.2.1.2.1.2.2.2.2.2.1, (u100000.2.1.2.1.2.2.2.2.2.2.1, (u100000.2.1.2.1.2.2.2.2.2.2.2.1, (u100000.2.1.2.1.2.2.2.2.2.2.2.2.1, ()))))))))), u100000.2.1.1.2.2.2.1, ())).bind fun r67 =>
                      some (.inl (((), ((), (u100000.1.2.2.2.1, (r67.1.1, ())))), ((u100000.2.1.1, (u100000.2.1.2.1, ())), ())))
                    else
                      if (u100000.1.2.2.2.2.2.2.2.2.2.2.1 == (22 : Int)) then
                        (F_impl_Hart_set ((u100000.2.1.2.1.1, (u100000.2.1.2.1.2.1, (u100000.2.1.2.1.2.2.1, (u100000.2.1.2.1.2.2.2.1, (u100000.2.1.2.1.2.2.2.2.1, (u100000.2.1.2.1.2.2.2.2.2.1, (u100000.2.1.2.1.2.2.2.2.2.2.1, (u100000.2.1.2.1.2.2.2.2.2.2.2.1, (u100000.2.1.2.1.2.2.2.2.2.2.2.2.1, ()))))))))), u100000.2.1.1.2.2.2.1, u100000.1.2.2.2.2.2.2.1, ())).bind fun r68 =>
                        some (.inl (((), ((), (u100000.1.2.2.2.1, (u100000.1.2.2.2.2.2.2.2.2.1, ())))), ((u100000.2.1.1, ((r68.2.1.1, (r68.2.1.2.1, (r68.2.1.2.2.1, (r68.2.1.2.2.2.1, (r68.2.1.2.2.2.2.1, (r68.2.1.2.2.2.2.2.1, (r68.2.1.2.2.2.2.2.2.1, (r68.2.1.2.2.2.2.2.2.2.1, (r68.2.1.2.2.2.2.2.2.2.2.1, (u100000.2.1.2.1.2.2.2.2.2.2.2.2.2.1, (u100000.2.1.2.1.2.2.2.2.2.2.2.2.2.2.1, (u100000.2.1.2.1.2.2.2.2.2.2.2.2.2.2.2.1, (u100000.2.1.2.1.2.2.2.2.2.2.2.2.2.2.2.2.1, ()))))))))))))), ())), ())))
                      else
                        if (u100000.1.2.2.2.2.2.2.2.2.2.2.1 == (23 : Int)) then
                          (F_impl_core_fail (u100000.2.1.2.1, (5 : Int), (0 : Int), ())).bind fun r69 =>
                          some (.inr (.inl ((false, ()), ((r69.2.1, ()), ()))))
                        else
                          if (u100000.1.2.2.2.2.2.2.2.2.2.2.1 == (24 : Int)) then
                            (F_impl_Hart_back ((u100000.2.1.2.1.1, (u100000.2.1.2.1.2.1, (u100000.2.1.2.1.2.2.1, (u100000.2.1.2.1.2.2.2.1, (u100000.2.1.2.1.2.2.2.2.1, (u100000.2.1.2.1.2.2.2.2.2.1, (u100000.2.1.2.1.2.2.2.2.2.2.1, (u100000.2.1.2.1.2.2.2.2.2.2.2.1, (u100000.2.1.2.1.2.2.2.2.2.2.2.2.1, ()))))))))), ())).bind fun r70 =>
                            some (.inl (((), ((), (r70.2.1.2.1, (u100000.1.2.2.2.2.2.2.2.2.1, ())))), ((u100000.2.1.1, ((r70.2.1.1, (r70.2.1.2.1, (r70.2.1.2.2.1, (r70.2.1.2.2.2.1, (r70.2.1.2.2.2.2.1, (r70.2.1.2.2.2.2.2.1, (r70.2.1.2.2.2.2.2.2.1, (r70.2.1.2.2.2.2.2.2.2.1, (r70.2.1.2.2.2.2.2.2.2.2.1, (u100000.2.1.2.1.2.2.2.2.2.2.2.2.2.1, (u100000.2.1.2.1.2.2.2.2.2.2.2.2.2.2.1, (u100000.2.1.2.1.2.2.2.2.2.2.2.2.2.2.2.1, (u100000.2.1.2.1.2.2.2.2.2.2.2.2.2.2.2.2.1, ()))))))))))))), ())), ())))
                          else
                            if (u100000.1.2.2.2.2.2.2.2.2.2.2.1 == (25 : Int)) then
                              some (.inl (((), ((), (u100000.1.2.2.2.1, (u100000.1.2.2.2.2.2.2.2.2.1, ())))), ((u100000.2.1.1, ((u100000.2.1.2.1.1, (u100000.2.1.2.1.2.1, (u100000.2.1.2.1.2.2.1, (u100000.2.1.2.1.2.2.2.1, (true, (u100000.2.1.2.1.2.2.2.2.2.1, (u100000.2.1.2.1.2.2.2.2.2.2.1, (u100000.2.1.2.1.2.2.2.2.2.2.2.1, (u100000.2.1.2.1.2.2.2.2.2.2.2.2.1, (u100000.2.1.2.1.2.2.2.2.2.2.2.2.2.1, (u100000.2.1.2.1.2.2.2.2.2.2.2.2.2.2.1, (u100000.2.1.2.1.2.2.2.2.2.2.2.2.2.2.2.1, (u100000.2.1.2.1.2.2.2.2.2.2.2.2.2.2.2.2.1, ()))))))))))))), ())), ())))
                            else
                              if (u100000.1.2.2.2.2.2.2.2.2.2.2.1 == (26 : Int)) then
                                some (.inl (((), ((), (u100000.1.2.2.1, (u100000.1.2.2.2.2.2.2.2.2.1, ())))), ((u100000.2.1.1, ((u100000.2.1.2.1.1, (u100000.2.1.2.1.2.1, (u100000.2.1.2.1.2.2.1, (true, (u100000.2.1.2.1.2.2.2.2.1, (u100000.2.1.2.1.2.2.2.2.2.1, (u100000.2.1.2.1.2.2.2.2.2.2.1, (u100000.2.1.2.1.2.2.2.2.2.2.2.1, (u100000.2.1.2.1.2.2.2.2.2.2.2.2.1, (u100000.2.1.2.1.2.2.2.2.2.2.2.2.2.1, (u100000.2.1.2.1.2.2.2.2.2.2.2.2.2.2.1, (u100000.2.1.2.1.2.2.2.2.2.2.2.2.2.2.2.1, (u100000.2.1.2.1.2.2.2.2.2.2.2.2.2.2.2.2.1, ()))))))))))))), ())), ())))
                              else
                                if 0 ≤ u100000.2.1.1.2.2.2.1 ∧ u100000.2.1.1.2.2.2.1 < ((u100000.2.1.2.1.1.length : Nat) : Int) then
                                  ((u100000.2.1.2.1.1)[(u100000.2.1.1.2.2.2.1).toNat]?).bind fun y71 =>
                                  (F_impl_AluOf (u100000.1.2.2.2.2.2.2.2.2.2.1, u100000.1.2.2.2.2.2.2.1, y71, ())).bind fun r72 =>
                                  some (.inl (((), ((), (u100000.1.2.2.2.1, (r72.1.1.2.1, ())))), ((u100000.2.1.1, (u100000.2.1.2.1, ())), ())))
                                else none
def F_impl_core_do (x : denP P_impl_core_do) : Option (denV R_impl_core_do × denQ P_impl_core_do) :=
  (F_impl_AddWords (x.1.2.1, (1 : Int), ())).bind fun r1 =>
  (F_impl_OffsetOf (x.2.1.2.2.2.1, ())).bind fun r2 =>
  (F_impl_AddWords (x.1.2.1, r2.1.1, ())).bind fun r3 =>
  if 0 ≤ x.2.1.2.1 ∧ x.2.1.2.1 < ((x.1.1.length : Nat) : Int) then
    ((x.1.1)[(x.2.1.2.1).toNat]?).bind fun y4 =>
    if 0 ≤ x.2.1.2.2.1 ∧ x.2.1.2.2.1 < ((x.1.1.length : Nat) : Int) then
      ((x.1.1)[(x.2.1.2.2.1).toNat]?).bind fun y5 =>
      (F_impl_OffsetOf (x.2.1.2.2.2.1, ())).bind fun r6 =>
      (F_impl_AddWords (y5, r6.1.1, ())).bind fun r7 =>
      (L_impl_core_do_100000 (((), ((), (x.1.2.1, (r1.1.1, (r3.1.1, (y4, (y5, (r7.1.1, ((0 : Int), (x.2.1.1, (x.2.1.1, ()))))))))))), (((x.2.1.1, (x.2.1.2.1, (x.2.1.2.2.1, (x.2.1.2.2.2.1, ())))), (x.1, ())), ()))).bind fun z73 =>
      match z73 with
      | .inl x74 =>
        (F_impl_WritesD (x74.2.1.1.1, ())).bind fun r75 =>
        if r75.1.1 = true then
          if (ltI (0 : Int) x74.2.1.1.2.1) then
            if 0 ≤ x74.2.1.1.2.1 ∧ x74.2.1.1.2.1 < ((x74.2.1.2.1.1.length : Nat) : Int) then
              ((x74.2.1.2.1.1)[(x74.2.1.1.2.1).toNat]?).bind fun y76 =>
              let v77 := (x74.2.1.2.1.1.set (x74.2.1.1.2.1).toNat x74.1.2.2.2.1)
              let v78 := (IntKind.i64.wrap (x74.2.1.2.1.2.2.2.2.2.2.1 + (1 : Int)))
              let v79 := (if (1000000000 : Int) < v78 then (1000000000 : Int) else v78)
              some ((true, ()), ((v77, (x74.1.2.2.1, (x74.2.1.2.1.2.2.1, (x74.2.1.2.1.2.2.2.1, (x74.2.1.2.1.2.2.2.2.1, (x74.2.1.2.1.2.2.2.2.2.1, (v79, (x74.2.1.2.1.2.2.2.2.2.2.2.1, (x74.2.1.2.1.2.2.2.2.2.2.2.2.1, (x74.2.1.2.1.2.2.2.2.2.2.2.2.2.1, (x74.2.1.2.1.2.2.2.2.2.2.2.2.2.2.1, (x74.2.1.2.1.2.2.2.2.2.2.2.2.2.2.2.1, (x74.2.1.2.1.2.2.2.2.2.2.2.2.2.2.2.2.1, ()))))))))))))), ()))
            else none
          else
            let v80 := (IntKind.i64.wrap (x74.2.1.2.1.2.2.2.2.2.2.1 + (1 : Int)))
            let v81 := (if (1000000000 : Int) < v80 then (1000000000 : Int) else v80)
            some ((true, ()), ((x74.2.1.2.1.1, (x74.1.2.2.1, (x74.2.1.2.1.2.2.1, (x74.2.1.2.1.2.2.2.1, (x74.2.1.2.1.2.2.2.2.1, (x74.2.1.2.1.2.2.2.2.2.1, (v81, (x74.2.1.2.1.2.2.2.2.2.2.2.1, (x74.2.1.2.1.2.2.2.2.2.2.2.2.1, (x74.2.1.2.1.2.2.2.2.2.2.2.2.2.1, (x74.2.1.2.1.2.2.2.2.2.2.2.2.2.2.1, (x74.2.1.2.1.2.2.2.2.2.2.2.2.2.2.2.1, (x74.2.1.2.1.2.2.2.2.2.2.2.2.2.2.2.2.1, ()))))))))))))), ()))
        else
          let v82 := (IntKind.i64.wrap (x74.2.1.2.1.2.2.2.2.2.2.1 + (1 : Int)))
          let v83 := (if (1000000000 : Int) < v82 then (1000000000 : Int) else v82)
          some ((true, ()), ((x74.2.1.2.1.1, (x74.1.2.2.1, (x74.2.1.2.1.2.2.1, (x74.2.1.2.1.2.2.2.1, (x74.2.1.2.1.2.2.2.2.1, (x74.2.1.2.1.2.2.2.2.2.1, (v83, (x74.2.1.2.1.2.2.2.2.2.2.2.1, (x74.2.1.2.1.2.2.2.2.2.2.2.2.1, (x74.2.1.2.1.2.2.2.2.2.2.2.2.2.1, (x74.2.1.2.1.2.2.2.2.2.2.2.2.2.2.1, (x74.2.1.2.1.2.2.2.2.2.2.2.2.2.2.2.1, (x74.2.1.2.1.2.2.2.2.2.2.2.2.2.2.2.2.1, ()))))))))))))), ()))
      | .inr z73_ =>
        match z73_ with
        | .inl x84 =>
          some ((x84.1.1, ()), (x84.2.1.1, ()))
        | .inr z73__ =>
          none
    else none
  else none
abbrev C_impl_core_do : Con := ⟨P_impl_core_do, R_impl_core_do, F_impl_core_do, false⟩
abbrev G_impl_core_do : Env := [(27, C_impl_AddWords), (28, C_impl_OffsetOf), (215, C_impl_core_fail), (262, C_impl_core_load), (263, C_impl_core_store), (264, C_impl_SignedOf), (265, C_impl_Hart_get), (266, C_impl_Hart_set), (267, C_impl_Hart_back), (268, C_impl_AluOf), (269, C_impl_WritesD)]
theorem g_impl_core_do : EnvOk Tryz.prog G_impl_core_do := (env_cons s_impl_AddWords (env_cons s_impl_OffsetOf (env_cons s_impl_core_fail (env_cons s_impl_core_load (env_cons s_impl_core_store (env_cons s_impl_SignedOf (env_cons s_impl_Hart_get (env_cons s_impl_Hart_set (env_cons s_impl_Hart_back (env_cons s_impl_AluOf (env_cons s_impl_WritesD env_nil)))))))))))
abbrev c_impl_core_do_100000 : Cut := ⟨i_impl_core_do_100000, o_impl_core_do_100000, L_impl_core_do_100000⟩
theorem t_impl_core_do_100000 (x) : run T G_impl_core_do [] (nav Tryz.f216 [1, 1, 1, 1, 1, 1, 0, 1, 1, 0]) (mk 214 i_impl_core_do_100000 x) (blockK 0 o_impl_core_do_100000) = L_impl_core_do_100000 x := by kernel_rfl
theorem k_impl_core_do_100000 : CutOk Tryz.prog 214 (.block 0 (nav Tryz.f216 [1, 1, 1, 1, 1, 1, 0, 1, 1, 0])) c_impl_core_do_100000 :=
  block_cut (L := []) hT g_impl_core_do t_impl_core_do_100000 (plain_ok (by kernel_rfl))
theorem r_impl_core_do (x) : runFn T G_impl_core_do [(100000, c_impl_core_do_100000)] Tryz.f216 P_impl_core_do R_impl_core_do x = F_impl_core_do x := by kernel_rfl
theorem s_impl_core_do : CallsOk Tryz.prog 216 C_impl_core_do :=
  fn_calls (L := [(100000, c_impl_core_do_100000)]) hT g_impl_core_do Tryz.f216 (by kernel_rfl) (by kernel_rfl) (by kernel_rfl) (seq_ok (plain_ok (by kernel_rfl)) (seq_ok (plain_ok (by kernel_rfl)) (seq_ok (plain_ok (by kernel_rfl)) (seq_ok (plain_ok (by kernel_rfl)) (seq_ok (plain_ok (by kernel_rfl)) (seq_ok (plain_ok (by kernel_rfl)) (seq_ok (seq_ok (plain_ok (by kernel_rfl)) (seq_ok (plain_ok (by kernel_rfl)) (blockc_ok (by kernel_rfl) k_impl_core_do_100000))) (plain_ok (by kernel_rfl))))))))) r_impl_core_do
/-! (*impl.core).step -/
abbrev P_impl_core_step : List PK := [.box [.own 2 YI, .dat YI, .own 2 YI, .dat .bool, .dat .bool, .dat .bool, .dat YI, .own 2 YI, .own 2 YI, .dat Y27, .own 2 YI, .dat YI, .dat YI] [.own 2 YI, .dat YI, .own 2 YI, .dat .bool, .dat .bool, .dat .bool, .dat YI, .own 2 YI, .own 2 YI, .dat Y27, .own 2 YI, .dat YI, .dat YI]]
abbrev R_impl_core_step : List VK := []
def F_impl_core_step (x : denP P_impl_core_step) : Option (denV R_impl_core_step × denQ P_impl_core_step) :=
  if x.1.2.2.2.1 then
    some ((), ((x.1.1, (x.1.2.1, (x.1.2.2.1, (x.1.2.2.2.1, (x.1.2.2.2.2.1, (x.1.2.2.2.2.2.1, (x.1.2.2.2.2.2.2.1, (x.1.2.2.2.2.2.2.2.1, (x.1.2.2.2.2.2.2.2.2.1, (x.1.2.2.2.2.2.2.2.2.2.1, (x.1.2.2.2.2.2.2.2.2.2.2.1, ((-1 : Int), ((-1 : Int), ()))))))))))))), ()))
  else
    (F_impl_Hart_due ((x.1.1, (x.1.2.1, (x.1.2.2.1, (x.1.2.2.2.1, (x.1.2.2.2.2.1, (x.1.2.2.2.2.2.1, (x.1.2.2.2.2.2.2.1, (x.1.2.2.2.2.2.2.2.1, (x.1.2.2.2.2.2.2.2.2.1, ()))))))))), ())).bind fun r1 =>
    if (leI (0 : Int) r1.1.1) then
      let v2 := (IntKind.i64.wrap ((16 : Int) + r1.1.1))
      (F_impl_core_fail ((x.1.1, (x.1.2.1, (x.1.2.2.1, (x.1.2.2.2.1, (x.1.2.2.2.2.1, (x.1.2.2.2.2.2.1, (x.1.2.2.2.2.2.2.1, (x.1.2.2.2.2.2.2.2.1, (x.1.2.2.2.2.2.2.2.2.1, (x.1.2.2.2.2.2.2.2.2.2.1, (x.1.2.2.2.2.2.2.2.2.2.2.1, ((-1 : Int), ((-1 : Int), ()))))))))))))), v2, (0 : Int), ())).bind fun r3 =>
      some ((), (r3.2.1, ()))
    else
      if x.1.2.2.2.2.1 then
        (F_impl_Hart_pending ((x.1.1, (x.1.2.1, (x.1.2.2.1, (x.1.2.2.2.1, (x.1.2.2.2.2.1, (x.1.2.2.2.2.2.1, (x.1.2.2.2.2.2.2.1, (x.1.2.2.2.2.2.2.2.1, (x.1.2.2.2.2.2.2.2.2.1, ()))))))))), ())).bind fun r4 =>
        if 0 ≤ (7 : Int) ∧ (7 : Int) < ((x.1.2.2.1.length : Nat) : Int) then
          ((x.1.2.2.1)[((7 : Int)).toNat]?).bind fun y5 =>
          let v6 := (iand .i64 r4.1.1 y5)
          if (v6 == (0 : Int)) then
            some ((), ((x.1.1, (x.1.2.1, (x.1.2.2.1, (x.1.2.2.2.1, (x.1.2.2.2.2.1, (x.1.2.2.2.2.2.1, (x.1.2.2.2.2.2.2.1, (x.1.2.2.2.2.2.2.2.1, (x.1.2.2.2.2.2.2.2.2.1, (x.1.2.2.2.2.2.2.2.2.2.1, (x.1.2.2.2.2.2.2.2.2.2.2.1, ((-1 : Int), ((-1 : Int), ()))))))))))))), ()))
          else
            (F_impl_Hart_place ((x.1.1, (x.1.2.1, (x.1.2.2.1, (x.1.2.2.2.1, (false, (x.1.2.2.2.2.2.1, (x.1.2.2.2.2.2.2.1, (x.1.2.2.2.2.2.2.2.1, (x.1.2.2.2.2.2.2.2.2.1, ()))))))))), x.1.2.2.2.2.2.2.2.2.2.1, x.1.2.2.2.2.2.2.2.2.2.2.1, x.1.2.1, (4 : Int), ())).bind fun r7 =>
            if (r7.1.1.1 != (0 : Int)) then
              (F_impl_core_fail ((x.1.1, (x.1.2.1, (x.1.2.2.1, (x.1.2.2.2.1, (false, (x.1.2.2.2.2.2.1, (x.1.2.2.2.2.2.2.1, (x.1.2.2.2.2.2.2.2.1, (x.1.2.2.2.2.2.2.2.2.1, (x.1.2.2.2.2.2.2.2.2.2.1, (x.1.2.2.2.2.2.2.2.2.2.2.1, ((-1 : Int), ((-1 : Int), ()))))))))))))), (2 : Int), x.1.2.1, ())).bind fun r8 =>
              some ((), (r8.2.1, ()))
            else
              if 0 ≤ r7.1.1.2.1 ∧ r7.1.1.2.1 < ((x.1.2.2.2.2.2.2.2.2.2.2.1.length : Nat) : Int) then
                ((x.1.2.2.2.2.2.2.2.2.2.2.1)[(r7.1.1.2.1).toNat]?).bind fun y9 =>
                (F_impl_DecodeIns (y9, ())).bind fun r10 =>
                if (r10.1.1.1 != (0 : Int)) then
                  if 0 ≤ r7.1.1.2.1 ∧ r7.1.1.2.1 < ((x.1.2.2.2.2.2.2.2.2.2.2.1.length : Nat) : Int) then
                    ((x.1.2.2.2.2.2.2.2.2.2.2.1)[(r7.1.1.2.1).toNat]?).bind fun y11 =>
                    (F_impl_core_fail ((x.1.1, (x.1.2.1, (x.1.2.2.1, (x.1.2.2.2.1, (false, (x.1.2.2.2.2.2.1, (x.1.2.2.2.2.2.2.1, (x.1.2.2.2.2.2.2.2.1, (x.1.2.2.2.2.2.2.2.2.1, (x.1.2.2.2.2.2.2.2.2.2.1, (x.1.2.2.2.2.2.2.2.2.2.2.1, ((-1 : Int), ((-1 : Int), ()))))))))))))), (1 : Int), y11, ())).bind fun r12 =>
                    some ((), (r12.2.1, ()))
                  else none
                else
                  (F_impl_core_do ((x.1.1, (x.1.2.1, (x.1.2.2.1, (x.1.2.2.2.1, (false, (x.1.2.2.2.2.2.1, (x.1.2.2.2.2.2.2.1, (x.1.2.2.2.2.2.2.2.1, (x.1.2.2.2.2.2.2.2.2.1, (x.1.2.2.2.2.2.2.2.2.2.1, (x.1.2.2.2.2.2.2.2.2.2.2.1, ((-1 : Int), ((-1 : Int), ()))))))))))))), r10.1.1.2.1, ())).bind fun r13 =>
                  some ((), (r13.2.1, ()))
              else none
        else none
      else
        (F_impl_Hart_place ((x.1.1, (x.1.2.1, (x.1.2.2.1, (x.1.2.2.2.1, (x.1.2.2.2.2.1, (x.1.2.2.2.2.2.1, (x.1.2.2.2.2.2.2.1, (x.1.2.2.2.2.2.2.2.1, (x.1.2.2.2.2.2.2.2.2.1, ()))))))))), x.1.2.2.2.2.2.2.2.2.2.1, x.1.2.2.2.2.2.2.2.2.2.2.1, x.1.2.1, (4 : Int), ())).bind fun r14 =>
        if (r14.1.1.1 != (0 : Int)) then
          (F_impl_core_fail ((x.1.1, (x.1.2.1, (x.1.2.2.1, (x.1.2.2.2.1, (x.1.2.2.2.2.1, (x.1.2.2.2.2.2.1, (x.1.2.2.2.2.2.2.1, (x.1.2.2.2.2.2.2.2.1, (x.1.2.2.2.2.2.2.2.2.1, (x.1.2.2.2.2.2.2.2.2.2.1, (x.1.2.2.2.2.2.2.2.2.2.2.1, ((-1 : Int), ((-1 : Int), ()))))))))))))), (2 : Int), x.1.2.1, ())).bind fun r15 =>
          some ((), (r15.2.1, ()))
        else
          if 0 ≤ r14.1.1.2.1 ∧ r14.1.1.2.1 < ((x.1.2.2.2.2.2.2.2.2.2.2.1.length : Nat) : Int) then
            ((x.1.2.2.2.2.2.2.2.2.2.2.1)[(r14.1.1.2.1).toNat]?).bind fun y16 =>
            (F_impl_DecodeIns (y16, ())).bind fun r17 =>
            if (r17.1.1.1 != (0 : Int)) then
              if 0 ≤ r14.1.1.2.1 ∧ r14.1.1.2.1 < ((x.1.2.2.2.2.2.2.2.2.2.2.1.length : Nat) : Int) then
                ((x.1.2.2.2.2.2.2.2.2.2.2.1)[(r14.1.1.2.1).toNat]?).bind fun y18 =>
                (F_impl_core_fail ((x.1.1, (x.1.2.1, (x.1.2.2.1, (x.1.2.2.2.1, (x.1.2.2.2.2.1, (x.1.2.2.2.2.2.1, (x.1.2.2.2.2.2.2.1, (x.1.2.2.2.2.2.2.2.1, (x.1.2.2.2.2.2.2.2.2.1, (x.1.2.2.2.2.2.2.2.2.2.1, (x.1.2.2.2.2.2.2.2.2.2.2.1, ((-1 : Int), ((-1 : Int), ()))))))))))))), (1 : Int), y18, ())).bind fun r19 =>
                some ((), (r19.2.1, ()))
              else none
            else
              (F_impl_core_do ((x.1.1, (x.1.2.1, (x.1.2.2.1, (x.1.2.2.2.1, (x.1.2.2.2.2.1, (x.1.2.2.2.2.2.1, (x.1.2.2.2.2.2.2.1, (x.1.2.2.2.2.2.2.2.1, (x.1.2.2.2.2.2.2.2.2.1, (x.1.2.2.2.2.2.2.2.2.2.1, (x.1.2.2.2.2.2.2.2.2.2.2.1, ((-1 : Int), ((-1 : Int), ()))))))))))))), r17.1.1.2.1, ())).bind fun r20 =>
              some ((), (r20.2.1, ()))
          else none
abbrev C_impl_core_step : Con := ⟨P_impl_core_step, R_impl_core_step, F_impl_core_step, false⟩
abbrev G_impl_core_step : Env := [(64, C_impl_DecodeIns), (67, C_impl_Hart_due), (69, C_impl_Hart_place), (158, C_impl_Hart_pending), (215, C_impl_core_fail), (216, C_impl_core_do)]
theorem g_impl_core_step : EnvOk Tryz.prog G_impl_core_step := (env_cons s_impl_DecodeIns (env_cons s_impl_Hart_due (env_cons s_impl_Hart_place (env_cons s_impl_Hart_pending (env_cons s_impl_core_fail (env_cons s_impl_core_do env_nil))))))
theorem r_impl_core_step (x) : runFn T G_impl_core_step [] Tryz.f140 P_impl_core_step R_impl_core_step x = F_impl_core_step x := by kernel_rfl
theorem s_impl_core_step : CallsOk Tryz.prog 140 C_impl_core_step :=
  fn_calls (L := []) hT g_impl_core_step Tryz.f140 (by kernel_rfl) (by kernel_rfl) (by kernel_rfl) (plain_ok (by kernel_rfl)) r_impl_core_step
/-! impl.stepped -/
abbrev P_impl_stepped : List PK := [.val Y25, .val Y27, .val Y24, .val YI]
abbrev R_impl_stepped : List VK := [.g [.dat YI, .dat YI, .dat YI, .own 2 YI, .dat YI, .own 2 YI, .dat .bool, .dat .bool, .dat .bool, .dat YI, .own 2 YI, .own 2 YI, .own 2 YI]]
abbrev i_impl_stepped_4 : Shp := { slots := [(8, .s (.ptr 8 0)), (9, .s (.ptr 9 0)), (10, .s (.dat YI)), (11, .s (.dat YI)), (18, .s (.dat YI)), (19, .s (.dat YI))], boxes := [(8, [.dat YI, .dat YI, .dat YI, .own 2 YI, .dat YI, .own 2 YI, .dat .bool, .dat .bool, .dat .bool, .dat YI, .own 2 YI, .own 2 YI, .own 2 YI]), (9, [.own 2 YI, .dat YI, .own 2 YI, .dat .bool, .dat .bool, .dat .bool, .dat YI, .own 2 YI, .own 2 YI, .dat Y27, .own 2 YI, .dat YI, .dat YI])], rows := [] }
abbrev o_impl_stepped_4 : List (Ex × Shp) := [(.exit 0, { slots := [(8, .s (.ptr 8 0)), (9, .s (.ptr 9 0)), (10, .s (.dat YI)), (11, .s (.dat YI))], boxes := [(8, [.dat YI, .dat YI, .dat YI, .own 2 YI, .dat YI, .own 2 YI, .dat .bool, .dat .bool, .dat .bool, .dat YI, .own 2 YI, .own 2 YI, .own 2 YI]), (9, [.own 2 YI, .dat YI, .own 2 YI, .dat .bool, .dat .bool, .dat .bool, .dat YI, .own 2 YI, .own 2 YI, .dat Y27, .own 2 YI, .dat YI, .dat YI])], rows := [] })]
def l_impl_stepped_4 (rec : i_impl_stepped_4.den → Option (denO o_impl_stepped_4)) (u4 : i_impl_stepped_4.den) : Option (denO o_impl_stepped_4) :=
  if (ltI u4.1.2.2.2.2.2.1 u4.1.2.2.2.2.1) then
    (F_impl_core_step (u4.2.1.2.1, ())).bind fun r4 =>
    if (leI (0 : Int) r4.2.1.2.2.2.2.2.2.2.2.2.2.2.1) then
      if (leI (0 : Int) r4.2.1.2.2.2.2.2.2.2.2.2.2.2.2.1) then
        let v5 := (IntKind.i64.wrap (u4.1.2.2.2.2.2.1 + (1 : Int)))
        rec (((), ((), (r4.2.1.2.2.2.2.2.2.2.2.2.2.2.1, (r4.2.1.2.2.2.2.2.2.2.2.2.2.2.2.1, (u4.1.2.2.2.2.1, (v5, ())))))), ((u4.2.1.1, (r4.2.1, ())), ()))
      else
        let v6 := (IntKind.i64.wrap (u4.1.2.2.2.2.2.1 + (1 : Int)))
        rec (((), ((), (r4.2.1.2.2.2.2.2.2.2.2.2.2.2.1, (u4.1.2.2.2.1, (u4.1.2.2.2.2.1, (v6, ())))))), ((u4.2.1.1, (r4.2.1, ())), ()))
    else
      if (leI (0 : Int) r4.2.1.2.2.2.2.2.2.2.2.2.2.2.2.1) then
        let v7 := (IntKind.i64.wrap (u4.1.2.2.2.2.2.1 + (1 : Int)))
        rec (((), ((), (u4.1.2.2.1, (r4.2.1.2.2.2.2.2.2.2.2.2.2.2.2.1, (u4.1.2.2.2.2.1, (v7, ())))))), ((u4.2.1.1, (r4.2.1, ())), ()))
      else
        let v8 := (IntKind.i64.wrap (u4.1.2.2.2.2.2.1 + (1 : Int)))
        rec (((), ((), (u4.1.2.2.1, (u4.1.2.2.2.1, (u4.1.2.2.2.2.1, (v8, ())))))), ((u4.2.1.1, (r4.2.1, ())), ()))
  else
    some (.inl (((), ((), (u4.1.2.2.1, (u4.1.2.2.2.1, ())))), ((u4.2.1.1, (u4.2.1.2.1, ())), ())))
def L_impl_stepped_4 (x : i_impl_stepped_4.den) : Option (denO o_impl_stepped_4) := iterF l_impl_stepped_4 lots x
def F_impl_stepped (x : denP P_impl_stepped) : Option (denV R_impl_stepped × denQ P_impl_stepped) :=
  (F_impl_Hart_own (x.1, ())).bind fun r1 =>
  (F_slices_Clone_int64 (x.2.2.1, ())).bind fun r2 =>
  (L_impl_stepped_4 (((), ((), ((-1 : Int), ((-1 : Int), (x.2.2.2.1, ((0 : Int), ())))))), ((((0 : Int), ((0 : Int), ((0 : Int), (([] : List (den YI)), ((0 : Int), (([] : List (den YI)), (false, (false, (false, ((0 : Int), (([] : List (den YI)), (([] : List (den YI)), (([] : List (den YI)), ()))))))))))))), ((r1.1.1.1, (r1.1.1.2.1, (r1.1.1.2.2.1, (r1.1.1.2.2.2.1, (r1.1.1.2.2.2.2.1, (r1.1.1.2.2.2.2.2.1, (r1.1.1.2.2.2.2.2.2.1, (r1.1.1.2.2.2.2.2.2.2.1, (r1.1.1.2.2.2.2.2.2.2.2.1, (x.2.1, (r2.1.1, ((0 : Int), ((0 : Int), ()))))))))))))), ())), ()))).bind fun z9 =>
  match z9 with
  | .inl x10 =>
    some ((((0 : Int), (x10.1.2.2.1, (x10.1.2.2.2.1, (x10.2.1.2.1.1, (x10.2.1.2.1.2.1, (x10.2.1.2.1.2.2.1, (x10.2.1.2.1.2.2.2.1, (x10.2.1.2.1.2.2.2.2.1, (x10.2.1.2.1.2.2.2.2.2.1, (x10.2.1.2.1.2.2.2.2.2.2.1, (x10.2.1.2.1.2.2.2.2.2.2.2.1, (x10.2.1.2.1.2.2.2.2.2.2.2.2.1, (x10.2.1.2.1.2.2.2.2.2.2.2.2.2.2.1, ()))))))))))))), ()), ())
  | .inr z9_ =>
    none
abbrev C_impl_stepped : Con := ⟨P_impl_stepped, R_impl_stepped, F_impl_stepped, false⟩
abbrev G_impl_stepped : Env := [(83, C_impl_Hart_own), (139, C_slices_Clone_int64), (140, C_impl_core_step)]
theorem g_impl_stepped : EnvOk Tryz.prog G_impl_stepped := (env_cons s_impl_Hart_own (env_cons s_slices_Clone_int64 (env_cons s_impl_core_step env_nil)))
abbrev c_impl_stepped_4 : Cut := ⟨i_impl_stepped_4, o_impl_stepped_4, fun x => iterF l_impl_stepped_4 lots x⟩
theorem t_impl_stepped_4 (rec x) : run T G_impl_stepped [] (nav Tryz.f57 [1, 1, 1, 0, 1, 0, 0]) (mk 40 i_impl_stepped_4 x) (loopK i_impl_stepped_4 o_impl_stepped_4 rec) = l_impl_stepped_4 rec x := by kernel_rfl
theorem k_impl_stepped_4 : CutOk Tryz.prog 40 (.loop (nav Tryz.f57 [1, 1, 1, 0, 1, 0, 0])) c_impl_stepped_4 :=
  loop_cut (L := []) hT g_impl_stepped t_impl_stepped_4 (plain_ok (by kernel_rfl)) _
theorem r_impl_stepped (x) : runFn T G_impl_stepped [(4, c_impl_stepped_4)] Tryz.f57 P_impl_stepped R_impl_stepped x = F_impl_stepped x := by kernel_rfl
theorem s_impl_stepped : CallsOk Tryz.prog 57 C_impl_stepped :=
  fn_calls (L := [(4, c_impl_stepped_4)]) hT g_impl_stepped Tryz.f57 (by kernel_rfl) (by kernel_rfl) (by kernel_rfl) (seq_ok (plain_ok (by kernel_rfl)) (seq_ok (plain_ok (by kernel_rfl)) (seq_ok (plain_ok (by kernel_rfl)) (seq_ok (seq_ok (plain_ok (by kernel_rfl)) (block_ok (by kernel_rfl) (loop_ok (by kernel_rfl) k_impl_stepped_4))) (plain_ok (by kernel_rfl)))))) r_impl_stepped
/-! impl.StepMany -/
abbrev P_impl_StepMany : List PK := [.val Y25, .val Y27, .val Y24, .val YI]
abbrev R_impl_StepMany : List VK := [.g [.dat YI, .dat YI, .dat YI, .own 2 YI, .dat YI, .own 2 YI, .dat .bool, .dat .bool, .dat .bool, .dat YI, .own 2 YI, .own 2 YI, .own 2 YI]]
def F_impl_StepMany (x : denP P_impl_StepMany) : Option (denV R_impl_StepMany × denQ P_impl_StepMany) :=
  (F_impl_stepFault (x.1, x.2.1, x.2.2.1, ())).bind fun r1 =>
  if (r1.1.1 == (0 : Int)) = true then
    (F_impl_within (x.2.2.2.1, (0 : Int), (500 : Int), ())).bind fun r2 =>
    if (!r2.1.1) then
      some ((((3 : Int), ((0 : Int), ((0 : Int), (([] : List (den YI)), ((0 : Int), (([] : List (den YI)), (false, (false, (false, ((0 : Int), (([] : List (den YI)), (([] : List (den YI)), (([] : List (den YI)), ()))))))))))))), ()), ())
    else
      if (r1.1.1 != (0 : Int)) then
        some (((r1.1.1, ((0 : Int), ((0 : Int), (([] : List (den YI)), ((0 : Int), (([] : List (den YI)), (false, (false, (false, ((0 : Int), (([] : List (den YI)), (([] : List (den YI)), (([] : List (den YI)), ()))))))))))))), ()), ())
      else
        (F_impl_stepped (x.1, x.2.1, x.2.2.1, x.2.2.2.1, ())).bind fun r3 =>
        some ((r3.1.1, ()), ())
  else
    if (r1.1.1 != (0 : Int)) then
      some (((r1.1.1, ((0 : Int), ((0 : Int), (([] : List (den YI)), ((0 : Int), (([] : List (den YI)), (false, (false, (false, ((0 : Int), (([] : List (den YI)), (([] : List (den YI)), (([] : List (den YI)), ()))))))))))))), ()), ())
    else
      (F_impl_stepped (x.1, x.2.1, x.2.2.1, x.2.2.2.1, ())).bind fun r4 =>
      some ((r4.1.1, ()), ())
abbrev C_impl_StepMany : Con := ⟨P_impl_StepMany, R_impl_StepMany, F_impl_StepMany, false⟩
abbrev G_impl_StepMany : Env := [(55, C_impl_stepFault), (56, C_impl_within), (57, C_impl_stepped)]
theorem g_impl_StepMany : EnvOk Tryz.prog G_impl_StepMany := (env_cons s_impl_stepFault (env_cons s_impl_within (env_cons s_impl_stepped env_nil)))
theorem r_impl_StepMany (x) : runFn T G_impl_StepMany [] Tryz.f13 P_impl_StepMany R_impl_StepMany x = F_impl_StepMany x := by kernel_rfl
theorem s_impl_StepMany : CallsOk Tryz.prog 13 C_impl_StepMany :=
  fn_calls (L := []) hT g_impl_StepMany Tryz.f13 (by kernel_rfl) (by kernel_rfl) (by kernel_rfl) (plain_ok (by kernel_rfl)) r_impl_StepMany
/-! spec.l8Fault -/
abbrev P_spec_l8Fault : List PK := [.ptr Y25]
abbrev R_spec_l8Fault : List VK := [.s (.dat YI)]
def F_spec_l8Fault (x : denP P_spec_l8Fault) : Option (denV R_spec_l8Fault × denQ P_spec_l8Fault) :=
  let v1 := ((x.1.1.length : Nat) : Int)
  if (v1 != (16 : Int)) = false then
    let v2 := ((x.1.2.2.1.length : Nat) : Int)
    if (v2 != (11 : Int)) = false then
      ((x.1.1)[((0 : Int)).toNat]?).bind fun y3 =>
      if (y3 != (0 : Int)) then
        some (((1 : Int), ()), ())
      else
        (F_spec_l8All (x.1.1, ())).bind fun r4 =>
        if (!r4.1.1) = false then
          (F_spec_l8Word (x.1.2.1, ())).bind fun r5 =>
          if (!r5.1.1) = false then
            (F_spec_l8All (x.1.2.2.1, ())).bind fun r6 =>
            if (!r6.1.1) = false then
              (F_spec_l8All (x.1.2.2.2.2.2.2.2.1, ())).bind fun r7 =>
              if (!r7.1.1) = false then
                (F_spec_l8All (x.1.2.2.2.2.2.2.2.2.1, ())).bind fun r8 =>
                if (!r8.1.1) then
                  some (((3 : Int), ()), ())
                else
                  let v9 := ((x.1.2.2.2.2.2.2.2.1.length : Nat) : Int)
                  if (ltI (40 : Int) v9) = false then
                    let v10 := ((x.1.2.2.2.2.2.2.2.2.1.length : Nat) : Int)
                    if (ltI (40 : Int) v10) then
                      some (((2 : Int), ()), ())
                    else
                      (F_spec_l1In (x.1.2.2.2.2.2.2.1, (0 : Int), (1000000000 : Int), ())).bind fun r11 =>
                      if (!r11.1.1) then
                        some (((3 : Int), ()), ())
                      else
                        ((x.1.2.2.1)[((0 : Int)).toNat]?).bind fun y12 =>
                        if (ltI (3 : Int) y12) = false then
                          ((x.1.2.2.1)[((7 : Int)).toNat]?).bind fun y13 =>
                          if (ltI (7 : Int) y13) = false then
                            ((x.1.2.2.1)[((10 : Int)).toNat]?).bind fun y14 =>
                            if (ltI (8 : Int) y14) = false then
                              ((x.1.2.2.1)[((6 : Int)).toNat]?).bind fun y15 =>
                              if (y15 != (0 : Int)) = false then
                                ((x.1.2.2.1)[((8 : Int)).toNat]?).bind fun y16 =>
                                if (y16 != (0 : Int)) then
                                  some (((1 : Int), ()), ())
                                else
                                  some (((0 : Int), ()), ())
                              else
                                some (((1 : Int), ()), ())
                            else
                              some (((1 : Int), ()), ())
                          else
                            some (((1 : Int), ()), ())
                        else
                          some (((1 : Int), ()), ())
                  else
                    some (((2 : Int), ()), ())
              else
                some (((3 : Int), ()), ())
            else
              some (((3 : Int), ()), ())
          else
            some (((3 : Int), ()), ())
        else
          some (((3 : Int), ()), ())
    else
      some (((1 : Int), ()), ())
  else
    some (((1 : Int), ()), ())
abbrev C_spec_l8Fault : Con := ⟨P_spec_l8Fault, R_spec_l8Fault, F_spec_l8Fault, false⟩
abbrev G_spec_l8Fault : Env := [(59, C_spec_l1In), (217, C_spec_l8All), (218, C_spec_l8Word)]
theorem g_spec_l8Fault : EnvOk Tryz.prog G_spec_l8Fault := (env_cons s_spec_l1In (env_cons s_spec_l8All (env_cons s_spec_l8Word env_nil)))
theorem r_spec_l8Fault (x) : runFn T G_spec_l8Fault [] Tryz.f141 P_spec_l8Fault R_spec_l8Fault x = F_spec_l8Fault x := by kernel_rfl
theorem s_spec_l8Fault : CallsOk Tryz.prog 141 C_spec_l8Fault :=
  fn_calls (L := []) hT g_spec_l8Fault Tryz.f141 (by kernel_rfl) (by kernel_rfl) (by kernel_rfl) (plain_ok (by kernel_rfl)) r_spec_l8Fault
/-! spec.PagesFault -/
abbrev P_spec_PagesFault : List PK := [.val Y27, .val YI]
abbrev R_spec_PagesFault : List VK := [.s (.dat YI)]
abbrev i_spec_PagesFault_6 : Shp := { slots := [(0, .s (.dat Y27)), (1, .s (.dat YI)), (5, .s (.dat YI))], boxes := [], rows := [] }
abbrev o_spec_PagesFault_6 : List (Ex × Shp) := [(.exit 0, { slots := [], boxes := [], rows := [] }), (.ret, { slots := [(4, .s (.dat YI))], boxes := [], rows := [] })]
def l_spec_PagesFault_6 (rec : i_spec_PagesFault_6.den → Option (denO o_spec_PagesFault_6)) (u6 : i_spec_PagesFault_6.den) : Option (denO o_spec_PagesFault_6) :=
  let v9 := ((u6.1.1.length : Nat) : Int)
  if (ltI u6.1.2.2.1 v9) then
    if 0 ≤ u6.1.2.2.1 then
      ((u6.1.1)[(u6.1.2.2.1).toNat]?).bind fun y10 =>
      let v11 := (IntKind.i64.wrap (u6.1.2.1 - (1 : Int)))
      (F_spec_l1In (y10.1, (-1 : Int), v11, ())).bind fun r12 =>
      if (!r12.1.1) = false then
        if 0 ≤ u6.1.2.2.1 then
          ((u6.1.1)[(u6.1.2.2.1).toNat]?).bind fun y13 =>
          (F_spec_l1In (y13.2.1, (0 : Int), (7 : Int), ())).bind fun r14 =>
          if (!r14.1.1) then
            some (.inr (.inl (((3 : Int), ()), ((), ()))))
          else
            if 0 ≤ u6.1.2.2.1 then
              ((u6.1.1)[(u6.1.2.2.1).toNat]?).bind fun y15 =>
              if (ltI y15.1 (0 : Int)) = true then
                if 0 ≤ u6.1.2.2.1 then
                  ((u6.1.1)[(u6.1.2.2.1).toNat]?).bind fun y16 =>
                  if (y16.2.1 != (0 : Int)) then
                    some (.inr (.inl (((1 : Int), ()), ((), ()))))
                  else
                    let v17 := (IntKind.i64.wrap (u6.1.2.2.1 + (1 : Int)))
                    rec ((u6.1.1, (u6.1.2.1, (v17, ()))), ((), ()))
                else none
              else
                let v18 := (IntKind.i64.wrap (u6.1.2.2.1 + (1 : Int)))
                rec ((u6.1.1, (u6.1.2.1, (v18, ()))), ((), ()))
            else none
        else none
      else
        some (.inr (.inl (((3 : Int), ()), ((), ()))))
    else none
  else
    some (.inl ((), ((), ())))
def L_spec_PagesFault_6 (x : i_spec_PagesFault_6.den) : Option (denO o_spec_PagesFault_6) := iterF l_spec_PagesFault_6 lots x
def F_spec_PagesFault (x : denP P_spec_PagesFault) : Option (denV R_spec_PagesFault × denQ P_spec_PagesFault) :=
  (F_spec_l1In (x.2.1, (1 : Int), (24 : Int), ())).bind fun r1 =>
  if (!r1.1.1) then
    some (((3 : Int), ()), ())
  else
    let v2 := ((x.1.length : Nat) : Int)
    if (v2 != (8 : Int)) then
      some (((1 : Int), ()), ())
    else
      (L_spec_PagesFault_6 ((x.1, (x.2.1, ((0 : Int), ()))), ((), ()))).bind fun z19 =>
      match z19 with
      | .inl x20 =>
        some (((0 : Int), ()), ())
      | .inr z19_ =>
        match z19_ with
        | .inl x21 =>
          some ((x21.1.1, ()), ())
        | .inr z19__ =>
          none
abbrev C_spec_PagesFault : Con := ⟨P_spec_PagesFault, R_spec_PagesFault, F_spec_PagesFault, false⟩
abbrev G_spec_PagesFault : Env := [(59, C_spec_l1In)]
theorem g_spec_PagesFault : EnvOk Tryz.prog G_spec_PagesFault := (env_cons s_spec_l1In env_nil)
abbrev c_spec_PagesFault_6 : Cut := ⟨i_spec_PagesFault_6, o_spec_PagesFault_6, fun x => iterF l_spec_PagesFault_6 lots x⟩
theorem t_spec_PagesFault_6 (rec x) : run T G_spec_PagesFault [] (nav Tryz.f142 [1, 1, 1, 0, 1, 0, 0]) (mk 50 i_spec_PagesFault_6 x) (loopK i_spec_PagesFault_6 o_spec_PagesFault_6 rec) = l_spec_PagesFault_6 rec x := by kernel_rfl
theorem k_spec_PagesFault_6 : CutOk Tryz.prog 50 (.loop (nav Tryz.f142 [1, 1, 1, 0, 1, 0, 0])) c_spec_PagesFault_6 :=
  loop_cut (L := []) hT g_spec_PagesFault t_spec_PagesFault_6 (plain_ok (by kernel_rfl)) _
theorem r_spec_PagesFault (x) : runFn T G_spec_PagesFault [(6, c_spec_PagesFault_6)] Tryz.f142 P_spec_PagesFault R_spec_PagesFault x = F_spec_PagesFault x := by kernel_rfl
theorem s_spec_PagesFault : CallsOk Tryz.prog 142 C_spec_PagesFault :=
  fn_calls (L := [(6, c_spec_PagesFault_6)]) hT g_spec_PagesFault Tryz.f142 (by kernel_rfl) (by kernel_rfl) (by kernel_rfl) (seq_ok (plain_ok (by kernel_rfl)) (seq_ok (plain_ok (by kernel_rfl)) (seq_ok (plain_ok (by kernel_rfl)) (seq_ok (seq_ok (plain_ok (by kernel_rfl)) (block_ok (by kernel_rfl) (loop_ok (by kernel_rfl) k_spec_PagesFault_6))) (plain_ok (by kernel_rfl)))))) r_spec_PagesFault
/-! spec.MemoryFault -/
abbrev P_spec_MemoryFault : List PK := [.val Y24]
abbrev R_spec_MemoryFault : List VK := [.s (.dat YI)]
abbrev i_spec_MemoryFault_4 : Shp := { slots := [(0, .s (.dat Y24)), (3, .s (.dat YI))], boxes := [], rows := [] }
abbrev o_spec_MemoryFault_4 : List (Ex × Shp) := [(.exit 0, { slots := [], boxes := [], rows := [] }), (.ret, { slots := [(2, .s (.dat YI))], boxes := [], rows := [] })]
def l_spec_MemoryFault_4 (rec : i_spec_MemoryFault_4.den → Option (denO o_spec_MemoryFault_4)) (u4 : i_spec_MemoryFault_4.den) : Option (denO o_spec_MemoryFault_4) :=
  let v7 := ((u4.1.1.length : Nat) : Int)
  if (ltI u4.1.2.1 v7) then
    if 0 ≤ u4.1.2.1 then
      ((u4.1.1)[(u4.1.2.1).toNat]?).bind fun y8 =>
      (F_spec_l1In (y8, (0 : Int), (4294967295 : Int), ())).bind fun r9 =>
      if (!r9.1.1) then
        some (.inr (.inl (((3 : Int), ()), ((), ()))))
      else
        let v10 := (IntKind.i64.wrap (u4.1.2.1 + (1 : Int)))
        rec ((u4.1.1, (v10, ())), ((), ()))
    else none
  else
    some (.inl ((), ((), ())))
def L_spec_MemoryFault_4 (x : i_spec_MemoryFault_4.den) : Option (denO o_spec_MemoryFault_4) := iterF l_spec_MemoryFault_4 lots x
def F_spec_MemoryFault (x : denP P_spec_MemoryFault) : Option (denV R_spec_MemoryFault × denQ P_spec_MemoryFault) :=
  let v1 := ((x.1.length : Nat) : Int)
  let v2 := ((v1).tmod (8 : Int))
  if (v2 != (0 : Int)) = false then
    let v3 := ((x.1.length : Nat) : Int)
    if (ltI v3 (8 : Int)) = false then
      let v4 := ((x.1.length : Nat) : Int)
      if (ltI (192 : Int) v4) then
        some (((1 : Int), ()), ())
      else
        (L_spec_MemoryFault_4 ((x.1, ((0 : Int), ())), ((), ()))).bind fun z11 =>
        match z11 with
        | .inl x12 =>
          some (((0 : Int), ()), ())
        | .inr z11_ =>
          match z11_ with
          | .inl x13 =>
            some ((x13.1.1, ()), ())
          | .inr z11__ =>
            none
    else
      some (((1 : Int), ()), ())
  else
    some (((1 : Int), ()), ())
abbrev C_spec_MemoryFault : Con := ⟨P_spec_MemoryFault, R_spec_MemoryFault, F_spec_MemoryFault, false⟩
abbrev G_spec_MemoryFault : Env := [(59, C_spec_l1In)]
theorem g_spec_MemoryFault : EnvOk Tryz.prog G_spec_MemoryFault := (env_cons s_spec_l1In env_nil)
abbrev c_spec_MemoryFault_4 : Cut := ⟨i_spec_MemoryFault_4, o_spec_MemoryFault_4, fun x => iterF l_spec_MemoryFault_4 lots x⟩
theorem t_spec_MemoryFault_4 (rec x) : run T G_spec_MemoryFault [] (nav Tryz.f143 [1, 1, 0, 1, 0, 0]) (mk 30 i_spec_MemoryFault_4 x) (loopK i_spec_MemoryFault_4 o_spec_MemoryFault_4 rec) = l_spec_MemoryFault_4 rec x := by kernel_rfl
theorem k_spec_MemoryFault_4 : CutOk Tryz.prog 30 (.loop (nav Tryz.f143 [1, 1, 0, 1, 0, 0])) c_spec_MemoryFault_4 :=
  loop_cut (L := []) hT g_spec_MemoryFault t_spec_MemoryFault_4 (plain_ok (by kernel_rfl)) _
theorem r_spec_MemoryFault (x) : runFn T G_spec_MemoryFault [(4, c_spec_MemoryFault_4)] Tryz.f143 P_spec_MemoryFault R_spec_MemoryFault x = F_spec_MemoryFault x := by kernel_rfl
theorem s_spec_MemoryFault : CallsOk Tryz.prog 143 C_spec_MemoryFault :=
  fn_calls (L := [(4, c_spec_MemoryFault_4)]) hT g_spec_MemoryFault Tryz.f143 (by kernel_rfl) (by kernel_rfl) (by kernel_rfl) (seq_ok (plain_ok (by kernel_rfl)) (seq_ok (plain_ok (by kernel_rfl)) (seq_ok (seq_ok (plain_ok (by kernel_rfl)) (block_ok (by kernel_rfl) (loop_ok (by kernel_rfl) k_spec_MemoryFault_4))) (plain_ok (by kernel_rfl))))) r_spec_MemoryFault
/-! spec.l10Asked -/
abbrev P_spec_l10Asked : List PK := [.ptr Y25, .val Y27, .val Y24]
abbrev R_spec_l10Asked : List VK := [.s (.dat YI)]
abbrev i_spec_l10Asked_10 : Shp := { slots := [(1, .s (.dat Y27)), (2, .s (.dat Y24)), (9, .s (.dat YI))], boxes := [], rows := [] }
abbrev o_spec_l10Asked_10 : List (Ex × Shp) := [(.exit 0, { slots := [], boxes := [], rows := [] }), (.ret, { slots := [(6, .s (.dat YI))], boxes := [], rows := [] })]
def l_spec_l10Asked_10 (rec : i_spec_l10Asked_10.den → Option (denO o_spec_l10Asked_10)) (u10 : i_spec_l10Asked_10.den) : Option (denO o_spec_l10Asked_10) :=
  let v5 := ((u10.1.1.length : Nat) : Int)
  if (ltI u10.1.2.2.1 v5) then
    if 0 ≤ u10.1.2.2.1 then
      ((u10.1.1)[(u10.1.2.2.1).toNat]?).bind fun y6 =>
      let v7 := (IntKind.i64.wrap (y6.1 + (1 : Int)))
      let v8 := (IntKind.i64.wrap (v7 * (8 : Int)))
      let v9 := ((u10.1.2.1.length : Nat) : Int)
      if (ltI v9 v8) then
        some (.inr (.inl (((1 : Int), ()), ((), ()))))
      else
        let v10 := (IntKind.i64.wrap (u10.1.2.2.1 + (1 : Int)))
        rec ((u10.1.1, (u10.1.2.1, (v10, ()))), ((), ()))
    else none
  else
    some (.inl ((), ((), ())))
def L_spec_l10Asked_10 (x : i_spec_l10Asked_10.den) : Option (denO o_spec_l10Asked_10) := iterF l_spec_l10Asked_10 lots x
def F_spec_l10Asked (x : denP P_spec_l10Asked) : Option (denV R_spec_l10Asked × denQ P_spec_l10Asked) :=
  (F_spec_l8Fault (x.1, ())).bind fun r1 =>
  if (r1.1.1 != (0 : Int)) then
    some ((r1.1.1, ()), ())
  else
    (F_spec_PagesFault (x.2.1, (24 : Int), ())).bind fun r2 =>
    if (r2.1.1 != (0 : Int)) then
      some ((r2.1.1, ()), ())
    else
      (F_spec_MemoryFault (x.2.2.1, ())).bind fun r3 =>
      if (r3.1.1 != (0 : Int)) then
        some (((1 : Int), ()), ())
      else
        (L_spec_l10Asked_10 ((x.2.1, (x.2.2.1, ((0 : Int), ()))), ((), ()))).bind fun z11 =>
        match z11 with
        | .inl x12 =>
          some (((0 : Int), ()), ())
        | .inr z11_ =>
          match z11_ with
          | .inl x13 =>
            some ((x13.1.1, ()), ())
          | .inr z11__ =>
            none
abbrev C_spec_l10Asked : Con := ⟨P_spec_l10Asked, R_spec_l10Asked, F_spec_l10Asked, false⟩
abbrev G_spec_l10Asked : Env := [(141, C_spec_l8Fault), (142, C_spec_PagesFault), (143, C_spec_MemoryFault)]
theorem g_spec_l10Asked : EnvOk Tryz.prog G_spec_l10Asked := (env_cons s_spec_l8Fault (env_cons s_spec_PagesFault (env_cons s_spec_MemoryFault env_nil)))
abbrev c_spec_l10Asked_10 : Cut := ⟨i_spec_l10Asked_10, o_spec_l10Asked_10, fun x => iterF l_spec_l10Asked_10 lots x⟩
theorem t_spec_l10Asked_10 (rec x) : run T G_spec_l10Asked [] (nav Tryz.f58 [1, 1, 1, 1, 0, 1, 0, 0]) (mk 39 i_spec_l10Asked_10 x) (loopK i_spec_l10Asked_10 o_spec_l10Asked_10 rec) = l_spec_l10Asked_10 rec x := by kernel_rfl
theorem k_spec_l10Asked_10 : CutOk Tryz.prog 39 (.loop (nav Tryz.f58 [1, 1, 1, 1, 0, 1, 0, 0])) c_spec_l10Asked_10 :=
  loop_cut (L := []) hT g_spec_l10Asked t_spec_l10Asked_10 (plain_ok (by kernel_rfl)) _
theorem r_spec_l10Asked (x) : runFn T G_spec_l10Asked [(10, c_spec_l10Asked_10)] Tryz.f58 P_spec_l10Asked R_spec_l10Asked x = F_spec_l10Asked x := by kernel_rfl
theorem s_spec_l10Asked : CallsOk Tryz.prog 58 C_spec_l10Asked :=
  fn_calls (L := [(10, c_spec_l10Asked_10)]) hT g_spec_l10Asked Tryz.f58 (by kernel_rfl) (by kernel_rfl) (by kernel_rfl) (seq_ok (plain_ok (by kernel_rfl)) (seq_ok (plain_ok (by kernel_rfl)) (seq_ok (plain_ok (by kernel_rfl)) (seq_ok (plain_ok (by kernel_rfl)) (seq_ok (seq_ok (plain_ok (by kernel_rfl)) (block_ok (by kernel_rfl) (loop_ok (by kernel_rfl) k_spec_l10Asked_10))) (plain_ok (by kernel_rfl))))))) r_spec_l10Asked
/-! spec.l3Copy -/
abbrev P_spec_l3Copy : List PK := [.val Y24]
abbrev R_spec_l3Copy : List VK := [.s (.own 2 YI)]
def F_spec_l3Copy (x : denP P_spec_l3Copy) : Option (denV R_spec_l3Copy × denQ P_spec_l3Copy) :=
  if (([] : List (den YI)).length + x.1.length) * 8 ≤ 140737488355328 then
    let v1 := (([] : List (den YI)) ++ x.1)
    some ((v1, ()), ())
  else none
abbrev C_spec_l3Copy : Con := ⟨P_spec_l3Copy, R_spec_l3Copy, F_spec_l3Copy, false⟩
abbrev G_spec_l3Copy : Env := []
theorem g_spec_l3Copy : EnvOk Tryz.prog G_spec_l3Copy := env_nil
theorem r_spec_l3Copy (x) : runFn T G_spec_l3Copy [] Tryz.f144 P_spec_l3Copy R_spec_l3Copy x = F_spec_l3Copy x := by kernel_rfl
theorem s_spec_l3Copy : CallsOk Tryz.prog 144 C_spec_l3Copy :=
  fn_calls (L := []) hT g_spec_l3Copy Tryz.f144 (by kernel_rfl) (by kernel_rfl) (by kernel_rfl) (plain_ok (by kernel_rfl)) r_spec_l3Copy
/-! spec.l8Copy -/
abbrev P_spec_l8Copy : List PK := [.val Y25]
abbrev R_spec_l8Copy : List VK := [.g [.own 2 YI, .dat YI, .own 2 YI, .dat .bool, .dat .bool, .dat .bool, .dat YI, .own 2 YI, .own 2 YI]]
def F_spec_l8Copy (x : denP P_spec_l8Copy) : Option (denV R_spec_l8Copy × denQ P_spec_l8Copy) :=
  if (([] : List (den YI)).length + x.1.1.length) * 8 ≤ 140737488355328 then
    let v1 := (([] : List (den YI)) ++ x.1.1)
    if (([] : List (den YI)).length + x.1.2.2.1.length) * 8 ≤ 140737488355328 then
      let v2 := (([] : List (den YI)) ++ x.1.2.2.1)
      if (([] : List (den YI)).length + x.1.2.2.2.2.2.2.2.1.length) * 8 ≤ 140737488355328 then
        let v3 := (([] : List (den YI)) ++ x.1.2.2.2.2.2.2.2.1)
        if (([] : List (den YI)).length + x.1.2.2.2.2.2.2.2.2.1.length) * 8 ≤ 140737488355328 then
          let v4 := (([] : List (den YI)) ++ x.1.2.2.2.2.2.2.2.2.1)
          some (((v1, (x.1.2.1, (v2, (x.1.2.2.2.1, (x.1.2.2.2.2.1, (x.1.2.2.2.2.2.1, (x.1.2.2.2.2.2.2.1, (v3, (v4, ()))))))))), ()), ())
        else none
      else none
    else none
  else none
abbrev C_spec_l8Copy : Con := ⟨P_spec_l8Copy, R_spec_l8Copy, F_spec_l8Copy, false⟩
abbrev G_spec_l8Copy : Env := []
theorem g_spec_l8Copy : EnvOk Tryz.prog G_spec_l8Copy := env_nil
theorem r_spec_l8Copy (x) : runFn T G_spec_l8Copy [] Tryz.f145 P_spec_l8Copy R_spec_l8Copy x = F_spec_l8Copy x := by kernel_rfl
theorem s_spec_l8Copy : CallsOk Tryz.prog 145 C_spec_l8Copy :=
  fn_calls (L := []) hT g_spec_l8Copy Tryz.f145 (by kernel_rfl) (by kernel_rfl) (by kernel_rfl) (plain_ok (by kernel_rfl)) r_spec_l8Copy
/-! spec.l10New -/
abbrev P_spec_l10New : List PK := [.val Y25, .val Y27, .val Y24]
abbrev R_spec_l10New : List VK := [.b [.dat Y27, .own 2 YI, .dat YI, .own 2 YI, .dat YI, .own 2 YI, .dat .bool, .dat .bool, .dat .bool, .dat YI, .dat Y24, .own 2 YI, .dat YI]]
def F_spec_l10New (x : denP P_spec_l10New) : Option (denV R_spec_l10New × denQ P_spec_l10New) :=
  (F_spec_l3Copy (x.2.2.1, ())).bind fun r1 =>
  (F_spec_l8Copy (x.1, ())).bind fun r2 =>
  some (((x.2.1, (r1.1.1, ((-1 : Int), (r2.1.1.1, (r2.1.1.2.1, (r2.1.1.2.2.1, (r2.1.1.2.2.2.1, (r2.1.1.2.2.2.2.1, (r2.1.1.2.2.2.2.2.1, (r2.1.1.2.2.2.2.2.2.1, (r2.1.1.2.2.2.2.2.2.2.1, (r2.1.1.2.2.2.2.2.2.2.2.1, ((-1 : Int), ()))))))))))))), ()), ())
abbrev C_spec_l10New : Con := ⟨P_spec_l10New, R_spec_l10New, F_spec_l10New, false⟩
abbrev G_spec_l10New : Env := [(144, C_spec_l3Copy), (145, C_spec_l8Copy)]
theorem g_spec_l10New : EnvOk Tryz.prog G_spec_l10New := (env_cons s_spec_l3Copy (env_cons s_spec_l8Copy env_nil))
theorem r_spec_l10New (x) : runFnb T G_spec_l10New [] Tryz.f60 P_spec_l10New [.dat Y27, .own 2 YI, .dat YI, .own 2 YI, .dat YI, .own 2 YI, .dat .bool, .dat .bool, .dat .bool, .dat YI, .dat Y24, .own 2 YI, .dat YI] x = F_spec_l10New x := by kernel_rfl
theorem s_spec_l10New : CallsOk Tryz.prog 60 C_spec_l10New :=
  fnb_calls (L := []) hT g_spec_l10New Tryz.f60 (by kernel_rfl) (by kernel_rfl) (by kernel_rfl) (plain_ok (by kernel_rfl)) r_spec_l10New
/-! spec.l8Pending -/
abbrev P_spec_l8Pending : List PK := [.ptr Y25]
abbrev R_spec_l8Pending : List VK := [.s (.dat YI)]
def F_spec_l8Pending (x : denP P_spec_l8Pending) : Option (denV R_spec_l8Pending × denQ P_spec_l8Pending) :=
  ((x.1.2.2.1)[((9 : Int)).toNat]?).bind fun y1 =>
  if (y1 != (0 : Int)) = true then
    ((x.1.2.2.1)[((9 : Int)).toNat]?).bind fun y2 =>
    if (leI y2 x.1.2.2.2.2.2.2.1) then
      if x.1.2.2.2.2.2.1 then
        let v3 := ((x.1.2.2.2.2.2.2.2.1.length : Nat) : Int)
        if (ltI (0 : Int) v3) then
          some (((7 : Int), ()), ())
        else
          some (((3 : Int), ()), ())
      else
        let v4 := ((x.1.2.2.2.2.2.2.2.1.length : Nat) : Int)
        if (ltI (0 : Int) v4) then
          some (((5 : Int), ()), ())
        else
          some (((1 : Int), ()), ())
    else
      if x.1.2.2.2.2.2.1 then
        let v5 := ((x.1.2.2.2.2.2.2.2.1.length : Nat) : Int)
        if (ltI (0 : Int) v5) then
          some (((6 : Int), ()), ())
        else
          some (((2 : Int), ()), ())
      else
        let v6 := ((x.1.2.2.2.2.2.2.2.1.length : Nat) : Int)
        if (ltI (0 : Int) v6) then
          some (((4 : Int), ()), ())
        else
          some (((0 : Int), ()), ())
  else
    if x.1.2.2.2.2.2.1 then
      let v7 := ((x.1.2.2.2.2.2.2.2.1.length : Nat) : Int)
      if (ltI (0 : Int) v7) then
        some (((6 : Int), ()), ())
      else
        some (((2 : Int), ()), ())
    else
      let v8 := ((x.1.2.2.2.2.2.2.2.1.length : Nat) : Int)
      if (ltI (0 : Int) v8) then
        some (((4 : Int), ()), ())
      else
        some (((0 : Int), ()), ())
abbrev C_spec_l8Pending : Con := ⟨P_spec_l8Pending, R_spec_l8Pending, F_spec_l8Pending, false⟩
abbrev G_spec_l8Pending : Env := []
theorem g_spec_l8Pending : EnvOk Tryz.prog G_spec_l8Pending := env_nil
theorem r_spec_l8Pending (x) : runFn T G_spec_l8Pending [] Tryz.f148 P_spec_l8Pending R_spec_l8Pending x = F_spec_l8Pending x := by kernel_rfl
theorem s_spec_l8Pending : CallsOk Tryz.prog 148 C_spec_l8Pending :=
  fn_calls (L := []) hT g_spec_l8Pending Tryz.f148 (by kernel_rfl) (by kernel_rfl) (by kernel_rfl) (plain_ok (by kernel_rfl)) r_spec_l8Pending
/-! spec.l8Due -/
abbrev P_spec_l8Due : List PK := [.ptr Y25]
abbrev R_spec_l8Due : List VK := [.s (.dat YI)]
abbrev i_spec_l8Due_5 : Shp := { slots := [(3, .s (.dat YI)), (4, .s (.dat YI))], boxes := [], rows := [] }
abbrev o_spec_l8Due_5 : List (Ex × Shp) := [(.exit 0, { slots := [], boxes := [], rows := [] }), (.ret, { slots := [(2, .s (.dat YI))], boxes := [], rows := [] })]
def l_spec_l8Due_5 (rec : i_spec_l8Due_5.den → Option (denO o_spec_l8Due_5)) (u5 : i_spec_l8Due_5.den) : Option (denO o_spec_l8Due_5) :=
  if (ltI u5.1.2.1 (3 : Int)) then
    let v6 := (IntKind.u64.wrap u5.1.2.1)
    if v6 < 0 then none else
    let v7 := ((u5.1.1).fdiv (2 ^ (min (v6).toNat 64)))
    let v8 := (iand .i64 v7 (1 : Int))
    if (v8 == (1 : Int)) then
      some (.inr (.inl ((u5.1.2.1, ()), ((), ()))))
    else
      let v9 := (IntKind.i64.wrap (u5.1.2.1 + (1 : Int)))
      rec ((u5.1.1, (v9, ())), ((), ()))
  else
    some (.inl ((), ((), ())))
def L_spec_l8Due_5 (x : i_spec_l8Due_5.den) : Option (denO o_spec_l8Due_5) := iterF l_spec_l8Due_5 lots x
def F_spec_l8Due (x : denP P_spec_l8Due) : Option (denV R_spec_l8Due × denQ P_spec_l8Due) :=
  (F_spec_l8Pending (x.1, ())).bind fun r1 =>
  ((x.1.2.2.1)[((7 : Int)).toNat]?).bind fun y2 =>
  let v3 := (iand .i64 r1.1.1 y2)
  ((x.1.2.2.1)[((0 : Int)).toNat]?).bind fun y4 =>
  let v5 := ((y4).tmod (2 : Int))
  if (v5 == (0 : Int)) then
    some (((-1 : Int), ()), ())
  else
    (L_spec_l8Due_5 ((v3, ((0 : Int), ())), ((), ()))).bind fun z10 =>
    match z10 with
    | .inl x11 =>
      some (((-1 : Int), ()), ())
    | .inr z10_ =>
      match z10_ with
      | .inl x12 =>
        some ((x12.1.1, ()), ())
      | .inr z10__ =>
        none
abbrev C_spec_l8Due : Con := ⟨P_spec_l8Due, R_spec_l8Due, F_spec_l8Due, false⟩
abbrev G_spec_l8Due : Env := [(148, C_spec_l8Pending)]
theorem g_spec_l8Due : EnvOk Tryz.prog G_spec_l8Due := (env_cons s_spec_l8Pending env_nil)
abbrev c_spec_l8Due_5 : Cut := ⟨i_spec_l8Due_5, o_spec_l8Due_5, fun x => iterF l_spec_l8Due_5 lots x⟩
theorem t_spec_l8Due_5 (rec x) : run T G_spec_l8Due [] (nav Tryz.f146 [1, 1, 1, 0, 1, 0, 0]) (mk 33 i_spec_l8Due_5 x) (loopK i_spec_l8Due_5 o_spec_l8Due_5 rec) = l_spec_l8Due_5 rec x := by kernel_rfl
theorem k_spec_l8Due_5 : CutOk Tryz.prog 33 (.loop (nav Tryz.f146 [1, 1, 1, 0, 1, 0, 0])) c_spec_l8Due_5 :=
  loop_cut (L := []) hT g_spec_l8Due t_spec_l8Due_5 (plain_ok (by kernel_rfl)) _
theorem r_spec_l8Due (x) : runFn T G_spec_l8Due [(5, c_spec_l8Due_5)] Tryz.f146 P_spec_l8Due R_spec_l8Due x = F_spec_l8Due x := by kernel_rfl
theorem s_spec_l8Due : CallsOk Tryz.prog 146 C_spec_l8Due :=
  fn_calls (L := [(5, c_spec_l8Due_5)]) hT g_spec_l8Due Tryz.f146 (by kernel_rfl) (by kernel_rfl) (by kernel_rfl) (seq_ok (plain_ok (by kernel_rfl)) (seq_ok (plain_ok (by kernel_rfl)) (seq_ok (plain_ok (by kernel_rfl)) (seq_ok (seq_ok (plain_ok (by kernel_rfl)) (block_ok (by kernel_rfl) (loop_ok (by kernel_rfl) k_spec_l8Due_5))) (plain_ok (by kernel_rfl)))))) r_spec_l8Due
/-! spec.l8Trap -/
abbrev P_spec_l8Trap : List PK := [.box [.own 2 YI, .dat YI, .own 2 YI, .dat .bool, .dat .bool, .dat .bool, .dat YI, .dat Y24, .own 2 YI] [.own 2 YI, .dat YI, .own 2 YI, .dat .bool, .dat .bool, .dat .bool, .dat YI, .dat Y24, .own 2 YI], .val YI, .val YI]
abbrev R_spec_l8Trap : List VK := []
def F_spec_l8Trap (x : denP P_spec_l8Trap) : Option (denV R_spec_l8Trap × denQ P_spec_l8Trap) :=
  if 0 ≤ (2 : Int) ∧ (2 : Int) < ((x.1.2.2.1.length : Nat) : Int) then
    ((x.1.2.2.1)[((2 : Int)).toNat]?).bind fun y1 =>
    let v2 := (x.1.2.2.1.set ((2 : Int)).toNat x.1.2.1)
    if 0 ≤ (3 : Int) ∧ (3 : Int) < ((v2.length : Nat) : Int) then
      ((v2)[((3 : Int)).toNat]?).bind fun y3 =>
      let v4 := (v2.set ((3 : Int)).toNat x.2.1)
      if 0 ≤ (4 : Int) ∧ (4 : Int) < ((v4.length : Nat) : Int) then
        ((v4)[((4 : Int)).toNat]?).bind fun y5 =>
        let v6 := (v4.set ((4 : Int)).toNat x.2.2.1)
        if 0 ≤ (0 : Int) ∧ (0 : Int) < ((v6.length : Nat) : Int) then
          ((v6)[((0 : Int)).toNat]?).bind fun y7 =>
          let v8 := ((y7).tmod (2 : Int))
          let v9 := (IntKind.i64.wrap (v8 * (2 : Int)))
          if 0 ≤ (0 : Int) ∧ (0 : Int) < ((v6.length : Nat) : Int) then
            ((v6)[((0 : Int)).toNat]?).bind fun y10 =>
            let v11 := (v6.set ((0 : Int)).toNat v9)
            if 0 ≤ (1 : Int) ∧ (1 : Int) < ((v11.length : Nat) : Int) then
              ((v11)[((1 : Int)).toNat]?).bind fun y12 =>
              some ((), ((x.1.1, (y12, (v11, (x.1.2.2.2.1, (false, (x.1.2.2.2.2.2.1, (x.1.2.2.2.2.2.2.1, (x.1.2.2.2.2.2.2.2.1, (x.1.2.2.2.2.2.2.2.2.1, ()))))))))), ()))
            else none
          else none
        else none
      else none
    else none
  else none
abbrev C_spec_l8Trap : Con := ⟨P_spec_l8Trap, R_spec_l8Trap, F_spec_l8Trap, false⟩
abbrev G_spec_l8Trap : Env := []
theorem g_spec_l8Trap : EnvOk Tryz.prog G_spec_l8Trap := env_nil
theorem r_spec_l8Trap (x) : runFn T G_spec_l8Trap [] Tryz.f219 P_spec_l8Trap R_spec_l8Trap x = F_spec_l8Trap x := by kernel_rfl
theorem s_spec_l8Trap : CallsOk Tryz.prog 219 C_spec_l8Trap :=
  fn_calls (L := []) hT g_spec_l8Trap Tryz.f219 (by kernel_rfl) (by kernel_rfl) (by kernel_rfl) (plain_ok (by kernel_rfl)) r_spec_l8Trap
/-! spec.l10Fall -/
abbrev P_spec_l10Fall : List PK := [.box [.dat Y27, .own 2 YI, .dat YI, .own 2 YI, .dat YI, .own 2 YI, .dat .bool, .dat .bool, .dat .bool, .dat YI, .dat Y24, .own 2 YI, .dat YI] [.dat Y27, .own 2 YI, .dat YI, .own 2 YI, .dat YI, .own 2 YI, .dat .bool, .dat .bool, .dat .bool, .dat YI, .dat Y24, .own 2 YI, .dat YI], .val YI, .val YI]
abbrev R_spec_l10Fall : List VK := []
def F_spec_l10Fall (x : denP P_spec_l10Fall) : Option (denV R_spec_l10Fall × denQ P_spec_l10Fall) :=
  (F_spec_l8Trap ((x.1.2.2.2.1, (x.1.2.2.2.2.1, (x.1.2.2.2.2.2.1, (x.1.2.2.2.2.2.2.1, (x.1.2.2.2.2.2.2.2.1, (x.1.2.2.2.2.2.2.2.2.1, (x.1.2.2.2.2.2.2.2.2.2.1, (x.1.2.2.2.2.2.2.2.2.2.2.1, (x.1.2.2.2.2.2.2.2.2.2.2.2.1, ()))))))))), x.2.1, x.2.2.1, ())).bind fun r1 =>
  some ((), ((x.1.1, (x.1.2.1, (x.1.2.2.1, (r1.2.1.1, (r1.2.1.2.1, (r1.2.1.2.2.1, (r1.2.1.2.2.2.1, (r1.2.1.2.2.2.2.1, (r1.2.1.2.2.2.2.2.1, (r1.2.1.2.2.2.2.2.2.1, (r1.2.1.2.2.2.2.2.2.2.1, (r1.2.1.2.2.2.2.2.2.2.2.1, (x.2.1, ()))))))))))))), ()))
abbrev C_spec_l10Fall : Con := ⟨P_spec_l10Fall, R_spec_l10Fall, F_spec_l10Fall, false⟩
abbrev G_spec_l10Fall : Env := [(219, C_spec_l8Trap)]
theorem g_spec_l10Fall : EnvOk Tryz.prog G_spec_l10Fall := (env_cons s_spec_l8Trap env_nil)
theorem r_spec_l10Fall (x) : runFn T G_spec_l10Fall [] Tryz.f147 P_spec_l10Fall R_spec_l10Fall x = F_spec_l10Fall x := by kernel_rfl
theorem s_spec_l10Fall : CallsOk Tryz.prog 147 C_spec_l10Fall :=
  fn_calls (L := []) hT g_spec_l10Fall Tryz.f147 (by kernel_rfl) (by kernel_rfl) (by kernel_rfl) (plain_ok (by kernel_rfl)) r_spec_l10Fall
/-! spec.l4Walk -/
abbrev P_spec_l4Walk : List PK := [.val Y27, .val YI, .val YI]
abbrev R_spec_l4Walk : List VK := [.s (.dat YI)]
def F_spec_l4Walk (x : denP P_spec_l4Walk) : Option (denV R_spec_l4Walk × denQ P_spec_l4Walk) :=
  (F_spec_l1In (x.2.1, (0 : Int), (63 : Int), ())).bind fun r1 =>
  if (!r1.1.1) then
    some (((-1 : Int), ()), ())
  else
    let v2 := (IntKind.i64.wrap ((x.2.1).tdiv (8 : Int)))
    if 0 ≤ v2 then
      ((x.1)[(v2).toNat]?).bind fun y3 =>
      if (ltI y3.1 (0 : Int)) = false then
        let v4 := (iand .i64 y3.2.1 x.2.2.1)
        if (v4 == (0 : Int)) then
          some (((-1 : Int), ()), ())
        else
          let v5 := (IntKind.i64.wrap (y3.1 * (8 : Int)))
          let v6 := ((x.2.1).tmod (8 : Int))
          let v7 := (IntKind.i64.wrap (v5 + v6))
          some ((v7, ()), ())
      else
        some (((-1 : Int), ()), ())
    else none
abbrev C_spec_l4Walk : Con := ⟨P_spec_l4Walk, R_spec_l4Walk, F_spec_l4Walk, false⟩
abbrev G_spec_l4Walk : Env := [(59, C_spec_l1In)]
theorem g_spec_l4Walk : EnvOk Tryz.prog G_spec_l4Walk := (env_cons s_spec_l1In env_nil)
theorem r_spec_l4Walk (x) : runFn T G_spec_l4Walk [] Tryz.f156 P_spec_l4Walk R_spec_l4Walk x = F_spec_l4Walk x := by kernel_rfl
theorem s_spec_l4Walk : CallsOk Tryz.prog 156 C_spec_l4Walk :=
  fn_calls (L := []) hT g_spec_l4Walk Tryz.f156 (by kernel_rfl) (by kernel_rfl) (by kernel_rfl) (plain_ok (by kernel_rfl)) r_spec_l4Walk
/-! spec.l4Entry -/
abbrev P_spec_l4Entry : List PK := [.val YI]
abbrev R_spec_l4Entry : List VK := [.s (.dat Y40)]
def F_spec_l4Entry (x : denP P_spec_l4Entry) : Option (denV R_spec_l4Entry × denQ P_spec_l4Entry) :=
  let v1 := (IntKind.i64.wrap ((x.1).tdiv (8 : Int)))
  let v2 := ((x.1).tmod (8 : Int))
  if (v2 == (0 : Int)) = false then
    if (leI (8 : Int) v1) then
      (F_spec_l4None ()).bind fun r3 =>
      some ((r3.1.1, ()), ())
    else
      some (((v1, (v2, ())), ()), ())
  else
    (F_spec_l4None ()).bind fun r4 =>
    some ((r4.1.1, ()), ())
abbrev C_spec_l4Entry : Con := ⟨P_spec_l4Entry, R_spec_l4Entry, F_spec_l4Entry, false⟩
abbrev G_spec_l4Entry : Env := [(251, C_spec_l4None)]
theorem g_spec_l4Entry : EnvOk Tryz.prog G_spec_l4Entry := (env_cons s_spec_l4None env_nil)
theorem r_spec_l4Entry (x) : runFn T G_spec_l4Entry [] Tryz.f280 P_spec_l4Entry R_spec_l4Entry x = F_spec_l4Entry x := by kernel_rfl
theorem s_spec_l4Entry : CallsOk Tryz.prog 280 C_spec_l4Entry :=
  fn_calls (L := []) hT g_spec_l4Entry Tryz.f280 (by kernel_rfl) (by kernel_rfl) (by kernel_rfl) (plain_ok (by kernel_rfl)) r_spec_l4Entry
/-! spec.PagesFrom -/
abbrev P_spec_PagesFrom : List PK := [.val Y24]
abbrev R_spec_PagesFrom : List VK := [.g [.dat YI, .own 41 Y40]]
abbrev i_spec_PagesFrom_5 : Shp := { slots := [(0, .s (.dat Y24)), (2, .s (.ptr 2 0)), (3, .s (.ptr 3 0)), (4, .s (.dat YI))], boxes := [(2, [.dat YI, .own 41 Y40]), (3, [.dat YI, .own 41 Y40])], rows := [] }
abbrev o_spec_PagesFrom_5 : List (Ex × Shp) := [(.exit 0, { slots := [(2, .s (.ptr 2 0)), (3, .s (.ptr 3 0))], boxes := [(2, [.dat YI, .own 41 Y40]), (3, [.dat YI, .own 41 Y40])], rows := [] }), (.ret, { slots := [(2, .s (.ptr 2 0))], boxes := [(2, [.dat YI, .own 41 Y40])], rows := [] })]
def l_spec_PagesFrom_5 (rec : i_spec_PagesFrom_5.den → Option (denO o_spec_PagesFrom_5)) (u5 : i_spec_PagesFrom_5.den) : Option (denO o_spec_PagesFrom_5) :=
  let v6 := ((u5.1.1.length : Nat) : Int)
  if (ltI u5.1.2.2.2.1 v6) then
    if 0 ≤ u5.1.2.2.2.1 then
      ((u5.1.1)[(u5.1.2.2.2.1).toNat]?).bind fun y7 =>
      (F_spec_l1In (y7, (0 : Int), (4294967295 : Int), ())).bind fun r8 =>
      if (!r8.1.1) then
        some (.inr (.inl (((), ()), ((((3 : Int), (([] : List (den Y40)), ())), ()), ()))))
      else
        if 0 ≤ u5.1.2.2.2.1 then
          ((u5.1.1)[(u5.1.2.2.2.1).toNat]?).bind fun y9 =>
          (F_spec_l4Entry (y9, ())).bind fun r10 =>
          if (u5.2.1.2.1.2.1.length + [r10.1.1].length) * 16 ≤ 140737488355328 then
            let v11 := (u5.2.1.2.1.2.1 ++ [r10.1.1])
            let v12 := (IntKind.i64.wrap (u5.1.2.2.2.1 + (1 : Int)))
            rec ((u5.1.1, ((), ((), (v12, ())))), ((u5.2.1.1, ((u5.2.1.2.1.1, (v11, ())), ())), ()))
          else none
        else none
    else none
  else
    some (.inl (((), ((), ())), ((u5.2.1.1, (u5.2.1.2.1, ())), ())))
def L_spec_PagesFrom_5 (x : i_spec_PagesFrom_5.den) : Option (denO o_spec_PagesFrom_5) := iterF l_spec_PagesFrom_5 lots x
def F_spec_PagesFrom (x : denP P_spec_PagesFrom) : Option (denV R_spec_PagesFrom × denQ P_spec_PagesFrom) :=
  let v1 := ((x.1.length : Nat) : Int)
  if (v1 != (8 : Int)) then
    some ((((1 : Int), (([] : List (den Y40)), ())), ()), ())
  else
    (L_spec_PagesFrom_5 ((x.1, ((), ((), ((0 : Int), ())))), ((((0 : Int), (([] : List (den Y40)), ())), (((0 : Int), (([] : List (den Y40)), ())), ())), ()))).bind fun z13 =>
    match z13 with
    | .inl x14 =>
      some ((x14.2.1.2.1, ()), ())
    | .inr z13_ =>
      match z13_ with
      | .inl x15 =>
        some ((x15.2.1.1, ()), ())
      | .inr z13__ =>
        none
abbrev C_spec_PagesFrom : Con := ⟨P_spec_PagesFrom, R_spec_PagesFrom, F_spec_PagesFrom, false⟩
abbrev G_spec_PagesFrom : Env := [(59, C_spec_l1In), (280, C_spec_l4Entry)]
theorem g_spec_PagesFrom : EnvOk Tryz.prog G_spec_PagesFrom := (env_cons s_spec_l1In (env_cons s_spec_l4Entry env_nil))
abbrev c_spec_PagesFrom_5 : Cut := ⟨i_spec_PagesFrom_5, o_spec_PagesFrom_5, fun x => iterF l_spec_PagesFrom_5 lots x⟩
theorem t_spec_PagesFrom_5 (rec x) : run T G_spec_PagesFrom [] (nav Tryz.f231 [1, 1, 1, 0, 1, 0, 0]) (mk 34 i_spec_PagesFrom_5 x) (loopK i_spec_PagesFrom_5 o_spec_PagesFrom_5 rec) = l_spec_PagesFrom_5 rec x := by kernel_rfl
theorem k_spec_PagesFrom_5 : CutOk Tryz.prog 34 (.loop (nav Tryz.f231 [1, 1, 1, 0, 1, 0, 0])) c_spec_PagesFrom_5 :=
  loop_cut (L := []) hT g_spec_PagesFrom t_spec_PagesFrom_5 (plain_ok (by kernel_rfl)) _
theorem r_spec_PagesFrom (x) : runFn T G_spec_PagesFrom [(5, c_spec_PagesFrom_5)] Tryz.f231 P_spec_PagesFrom R_spec_PagesFrom x = F_spec_PagesFrom x := by kernel_rfl
theorem s_spec_PagesFrom : CallsOk Tryz.prog 231 C_spec_PagesFrom :=
  fn_calls (L := [(5, c_spec_PagesFrom_5)]) hT g_spec_PagesFrom Tryz.f231 (by kernel_rfl) (by kernel_rfl) (by kernel_rfl) (seq_ok (plain_ok (by kernel_rfl)) (seq_ok (plain_ok (by kernel_rfl)) (seq_ok (plain_ok (by kernel_rfl)) (seq_ok (seq_ok (plain_ok (by kernel_rfl)) (block_ok (by kernel_rfl) (loop_ok (by kernel_rfl) k_spec_PagesFrom_5))) (plain_ok (by kernel_rfl)))))) r_spec_PagesFrom
/-! spec.l10Space -/
abbrev P_spec_l10Space : List PK := [.ptr Y121]
abbrev R_spec_l10Space : List VK := [.s (.own 41 Y40), .s (.dat .bool)]
abbrev i_spec_l10Space_5 : Shp := { slots := [(5, .s (.own 41 Y40)), (6, .s (.dat YI))], boxes := [], rows := [] }
abbrev o_spec_l10Space_5 : List (Ex × Shp) := [(.exit 0, { slots := [(5, .s (.own 41 Y40))], boxes := [], rows := [] })]
def l_spec_l10Space_5 (rec : i_spec_l10Space_5.den → Option (denO o_spec_l10Space_5)) (u5 : i_spec_l10Space_5.den) : Option (denO o_spec_l10Space_5) :=
  if (ltI u5.1.2.1 (8 : Int)) then
    if (u5.1.1.length + [(u5.1.2.1, ((7 : Int), ()))].length) * 16 ≤ 140737488355328 then
      let v2 := (u5.1.1 ++ [(u5.1.2.1, ((7 : Int), ()))])
      let v3 := (IntKind.i64.wrap (u5.1.2.1 + (1 : Int)))
      rec ((v2, (v3, ())), ((), ()))
    else none
  else
    some (.inl ((u5.1.1, ()), ((), ())))
def L_spec_l10Space_5 (x : i_spec_l10Space_5.den) : Option (denO o_spec_l10Space_5) := iterF l_spec_l10Space_5 lots x
def F_spec_l10Space (x : denP P_spec_l10Space) : Option (denV R_spec_l10Space × denQ P_spec_l10Space) :=
  ((x.1.2.2.2.1.2.2.1)[((10 : Int)).toNat]?).bind fun y1 =>
  if (y1 == (0 : Int)) then
    (L_spec_l10Space_5 ((([] : List (den Y40)), ((0 : Int), ())), ((), ()))).bind fun z4 =>
    match z4 with
    | .inl x5 =>
      some ((x5.1.1, true, ()), ())
    | .inr z4_ =>
      none
  else
    let v6 := (IntKind.i64.wrap (y1 - (1 : Int)))
    let v7 := (IntKind.i64.wrap (v6 * (8 : Int)))
    (F_spec_l4Walk (x.1.1, v7, (1 : Int), ())).bind fun r8 =>
    if (y1 == (8 : Int)) = false then
      if (ltI r8.1.1 (0 : Int)) then
        some ((([] : List (den Y40)), false, ()), ())
      else
        let v9 := (IntKind.i64.wrap (r8.1.1 + (8 : Int)))
        if 0 ≤ r8.1.1 ∧ r8.1.1 ≤ v9 ∧ v9 ≤ ((x.1.2.1.length : Nat) : Int) then
          let v10 := ((x.1.2.1.drop (r8.1.1).toNat).take ((v9).toNat - (r8.1.1).toNat))
          (F_spec_PagesFrom (v10, ())).bind fun r11 =>
          some ((r11.1.1.2.1, true, ()), ())
        else none
    else
      some ((([] : List (den Y40)), false, ()), ())
abbrev C_spec_l10Space : Con := ⟨P_spec_l10Space, R_spec_l10Space, F_spec_l10Space, false⟩
abbrev G_spec_l10Space : Env := [(156, C_spec_l4Walk), (231, C_spec_PagesFrom)]
theorem g_spec_l10Space : EnvOk Tryz.prog G_spec_l10Space := (env_cons s_spec_l4Walk (env_cons s_spec_PagesFrom env_nil))
abbrev c_spec_l10Space_5 : Cut := ⟨i_spec_l10Space_5, o_spec_l10Space_5, fun x => iterF l_spec_l10Space_5 lots x⟩
theorem t_spec_l10Space_5 (rec x) : run T G_spec_l10Space [] (nav Tryz.f155 [1, 1, 0, 1, 0, 1, 0, 1, 0, 0]) (mk 52 i_spec_l10Space_5 x) (loopK i_spec_l10Space_5 o_spec_l10Space_5 rec) = l_spec_l10Space_5 rec x := by kernel_rfl
theorem k_spec_l10Space_5 : CutOk Tryz.prog 52 (.loop (nav Tryz.f155 [1, 1, 0, 1, 0, 1, 0, 1, 0, 0])) c_spec_l10Space_5 :=
  loop_cut (L := []) hT g_spec_l10Space t_spec_l10Space_5 (plain_ok (by kernel_rfl)) _
theorem r_spec_l10Space (x) : runFn T G_spec_l10Space [(5, c_spec_l10Space_5)] Tryz.f155 P_spec_l10Space R_spec_l10Space x = F_spec_l10Space x := by kernel_rfl
theorem s_spec_l10Space : CallsOk Tryz.prog 155 C_spec_l10Space :=
  fn_calls (L := [(5, c_spec_l10Space_5)]) hT g_spec_l10Space Tryz.f155 (by kernel_rfl) (by kernel_rfl) (by kernel_rfl) (seq_ok (plain_ok (by kernel_rfl)) (seq_ok (plain_ok (by kernel_rfl)) (seq_ok (seq_ok (plain_ok (by kernel_rfl)) (cond_ok (seq_ok (plain_ok (by kernel_rfl)) (seq_ok (seq_ok (plain_ok (by kernel_rfl)) (block_ok (by kernel_rfl) (loop_ok (by kernel_rfl) k_spec_l10Space_5))) (plain_ok (by kernel_rfl)))) (plain_ok (by kernel_rfl)))) (plain_ok (by kernel_rfl))))) r_spec_l10Space
/-! spec.l4Code -/
abbrev P_spec_l4Code : List PK := [.val YI]
abbrev R_spec_l4Code : List VK := [.s (.dat YI)]
def F_spec_l4Code (x : denP P_spec_l4Code) : Option (denV R_spec_l4Code × denQ P_spec_l4Code) :=
  if (x.1 == (1 : Int)) then
    some (((7 : Int), ()), ())
  else
    if (x.1 == (2 : Int)) then
      some (((8 : Int), ()), ())
    else
      some (((9 : Int), ()), ())
abbrev C_spec_l4Code : Con := ⟨P_spec_l4Code, R_spec_l4Code, F_spec_l4Code, false⟩
abbrev G_spec_l4Code : Env := []
theorem g_spec_l4Code : EnvOk Tryz.prog G_spec_l4Code := env_nil
theorem r_spec_l4Code (x) : runFn T G_spec_l4Code [] Tryz.f157 P_spec_l4Code R_spec_l4Code x = F_spec_l4Code x := by kernel_rfl
theorem s_spec_l4Code : CallsOk Tryz.prog 157 C_spec_l4Code :=
  fn_calls (L := []) hT g_spec_l4Code Tryz.f157 (by kernel_rfl) (by kernel_rfl) (by kernel_rfl) (plain_ok (by kernel_rfl)) r_spec_l4Code
/-! spec.l10Place -/
abbrev P_spec_l10Place : List PK := [.ptr Y121, .val YI, .val YI]
abbrev R_spec_l10Place : List VK := [.s (.dat YI), .s (.dat YI)]
def F_spec_l10Place (x : denP P_spec_l10Place) : Option (denV R_spec_l10Place × denQ P_spec_l10Place) :=
  (F_spec_l10Space (x.1, ())).bind fun r1 =>
  if (!r1.1.2.1) then
    some (((0 : Int), (7 : Int), ()), ())
  else
    (F_spec_l4Walk (r1.1.1, x.2.1, x.2.2.1, ())).bind fun r2 =>
    if (ltI r2.1.1 (0 : Int)) then
      (F_spec_l4Code (x.2.2.1, ())).bind fun r3 =>
      some (((0 : Int), r3.1.1, ()), ())
    else
      let v4 := (IntKind.i64.wrap ((r2.1.1).tdiv (8 : Int)))
      if (v4 == (7 : Int)) then
        if (x.2.2.1 == (4 : Int)) then
          some (((0 : Int), (9 : Int), ()), ())
        else
          let v5 := ((r2.1.1).tmod (8 : Int))
          let v6 := (IntKind.i64.wrap ((1000 : Int) + v5))
          some ((v6, (0 : Int), ()), ())
      else
        (F_spec_l4Walk (x.1.1, r2.1.1, x.2.2.1, ())).bind fun r7 =>
        if (ltI r7.1.1 (0 : Int)) then
          (F_spec_l4Code (x.2.2.1, ())).bind fun r8 =>
          some (((0 : Int), r8.1.1, ()), ())
        else
          some ((r7.1.1, (0 : Int), ()), ())
abbrev C_spec_l10Place : Con := ⟨P_spec_l10Place, R_spec_l10Place, F_spec_l10Place, false⟩
abbrev G_spec_l10Place : Env := [(155, C_spec_l10Space), (156, C_spec_l4Walk), (157, C_spec_l4Code)]
theorem g_spec_l10Place : EnvOk Tryz.prog G_spec_l10Place := (env_cons s_spec_l10Space (env_cons s_spec_l4Walk (env_cons s_spec_l4Code env_nil)))
theorem r_spec_l10Place (x) : runFn T G_spec_l10Place [] Tryz.f65 P_spec_l10Place R_spec_l10Place x = F_spec_l10Place x := by kernel_rfl
theorem s_spec_l10Place : CallsOk Tryz.prog 65 C_spec_l10Place :=
  fn_calls (L := []) hT g_spec_l10Place Tryz.f65 (by kernel_rfl) (by kernel_rfl) (by kernel_rfl) (plain_ok (by kernel_rfl)) r_spec_l10Place
/-! spec.l2Decode -/
abbrev P_spec_l2Decode : List PK := [.val YI]
abbrev R_spec_l2Decode : List VK := [.s (.dat Y42), .s (.dat .bool)]
def F_spec_l2Decode (x : denP P_spec_l2Decode) : Option (denV R_spec_l2Decode × denQ P_spec_l2Decode) :=
  (F_spec_l1In (x.1, (0 : Int), (4294967295 : Int), ())).bind fun r1 =>
  if (!r1.1.1) then
    some ((((0 : Int), ((0 : Int), ((0 : Int), ((0 : Int), ())))), false, ()), ())
  else
    let v2 := ((x.1).fdiv (2 ^ 24))
    let v3 := ((x.1).fdiv (2 ^ 20))
    let v4 := (iand .i64 v3 (15 : Int))
    let v5 := ((x.1).fdiv (2 ^ 16))
    let v6 := (iand .i64 v5 (15 : Int))
    let v7 := (iand .i64 x.1 (65535 : Int))
    (F_spec_InsFault ((v2, (v4, (v6, (v7, ())))), ())).bind fun r8 =>
    some (((v2, (v4, (v6, (v7, ())))), (r8.1.1 == (0 : Int)), ()), ())
abbrev C_spec_l2Decode : Con := ⟨P_spec_l2Decode, R_spec_l2Decode, F_spec_l2Decode, false⟩
abbrev G_spec_l2Decode : Env := [(59, C_spec_l1In), (220, C_spec_InsFault)]
theorem g_spec_l2Decode : EnvOk Tryz.prog G_spec_l2Decode := (env_cons s_spec_l1In (env_cons s_spec_InsFault env_nil))
theorem r_spec_l2Decode (x) : runFn T G_spec_l2Decode [] Tryz.f149 P_spec_l2Decode R_spec_l2Decode x = F_spec_l2Decode x := by kernel_rfl
theorem s_spec_l2Decode : CallsOk Tryz.prog 149 C_spec_l2Decode :=
  fn_calls (L := []) hT g_spec_l2Decode Tryz.f149 (by kernel_rfl) (by kernel_rfl) (by kernel_rfl) (plain_ok (by kernel_rfl)) r_spec_l2Decode
/-! spec.AddWords -/
abbrev P_spec_AddWords : List PK := [.val YI, .val YI]
abbrev R_spec_AddWords : List VK := [.s (.dat YI)]
def F_spec_AddWords (x : denP P_spec_AddWords) : Option (denV R_spec_AddWords × denQ P_spec_AddWords) :=
  let v1 := (IntKind.u32.wrap x.1)
  let v2 := (IntKind.u32.wrap x.2.1)
  let v3 := (IntKind.u32.wrap (v1 + v2))
  let v4 := (IntKind.i64.wrap v3)
  some ((v4, ()), ())
abbrev C_spec_AddWords : Con := ⟨P_spec_AddWords, R_spec_AddWords, F_spec_AddWords, false⟩
abbrev G_spec_AddWords : Env := []
theorem g_spec_AddWords : EnvOk Tryz.prog G_spec_AddWords := env_nil
theorem r_spec_AddWords (x) : runFn T G_spec_AddWords [] Tryz.f221 P_spec_AddWords R_spec_AddWords x = F_spec_AddWords x := by kernel_rfl
theorem s_spec_AddWords : CallsOk Tryz.prog 221 C_spec_AddWords :=
  fn_calls (L := []) hT g_spec_AddWords Tryz.f221 (by kernel_rfl) (by kernel_rfl) (by kernel_rfl) (plain_ok (by kernel_rfl)) r_spec_AddWords
/-! spec.OffsetOf -/
abbrev P_spec_OffsetOf : List PK := [.val YI]
abbrev R_spec_OffsetOf : List VK := [.s (.dat YI)]
def F_spec_OffsetOf (x : denP P_spec_OffsetOf) : Option (denV R_spec_OffsetOf × denQ P_spec_OffsetOf) :=
  let v1 := (IntKind.u16.wrap x.1)
  let v2 := (IntKind.i16.wrap v1)
  let v3 := (IntKind.i64.wrap v2)
  some ((v3, ()), ())
abbrev C_spec_OffsetOf : Con := ⟨P_spec_OffsetOf, R_spec_OffsetOf, F_spec_OffsetOf, false⟩
abbrev G_spec_OffsetOf : Env := []
theorem g_spec_OffsetOf : EnvOk Tryz.prog G_spec_OffsetOf := env_nil
theorem r_spec_OffsetOf (x) : runFn T G_spec_OffsetOf [] Tryz.f222 P_spec_OffsetOf R_spec_OffsetOf x = F_spec_OffsetOf x := by kernel_rfl
theorem s_spec_OffsetOf : CallsOk Tryz.prog 222 C_spec_OffsetOf :=
  fn_calls (L := []) hT g_spec_OffsetOf Tryz.f222 (by kernel_rfl) (by kernel_rfl) (by kernel_rfl) (plain_ok (by kernel_rfl)) r_spec_OffsetOf
/-! spec.l10Put -/
abbrev P_spec_l10Put : List PK := [.box [.dat Y27, .own 2 YI, .dat YI, .own 2 YI, .dat YI, .own 2 YI, .dat .bool, .dat .bool, .dat .bool, .dat YI, .dat Y24, .own 2 YI, .dat YI] [.dat Y27, .own 2 YI, .dat YI, .own 2 YI, .dat YI, .own 2 YI, .dat .bool, .dat .bool, .dat .bool, .dat YI, .dat Y24, .own 2 YI, .dat YI], .val YI, .val YI]
abbrev R_spec_l10Put : List VK := []
def F_spec_l10Put (x : denP P_spec_l10Put) : Option (denV R_spec_l10Put × denQ P_spec_l10Put) :=
  if (x.2.1 != (0 : Int)) then
    if 0 ≤ x.2.1 ∧ x.2.1 < ((x.1.2.2.2.1.length : Nat) : Int) then
      ((x.1.2.2.2.1)[(x.2.1).toNat]?).bind fun y1 =>
      let v2 := (x.1.2.2.2.1.set (x.2.1).toNat x.2.2.1)
      some ((), ((x.1.1, (x.1.2.1, (x.1.2.2.1, (v2, (x.1.2.2.2.2.1, (x.1.2.2.2.2.2.1, (x.1.2.2.2.2.2.2.1, (x.1.2.2.2.2.2.2.2.1, (x.1.2.2.2.2.2.2.2.2.1, (x.1.2.2.2.2.2.2.2.2.2.1, (x.1.2.2.2.2.2.2.2.2.2.2.1, (x.1.2.2.2.2.2.2.2.2.2.2.2.1, (x.1.2.2.2.2.2.2.2.2.2.2.2.2.1, ()))))))))))))), ()))
    else none
  else
    some ((), (x.1, ()))
abbrev C_spec_l10Put : Con := ⟨P_spec_l10Put, R_spec_l10Put, F_spec_l10Put, false⟩
abbrev G_spec_l10Put : Env := []
theorem g_spec_l10Put : EnvOk Tryz.prog G_spec_l10Put := env_nil
theorem r_spec_l10Put (x) : runFn T G_spec_l10Put [] Tryz.f223 P_spec_l10Put R_spec_l10Put x = F_spec_l10Put x := by kernel_rfl
theorem s_spec_l10Put : CallsOk Tryz.prog 223 C_spec_l10Put :=
  fn_calls (L := []) hT g_spec_l10Put Tryz.f223 (by kernel_rfl) (by kernel_rfl) (by kernel_rfl) (plain_ok (by kernel_rfl)) r_spec_l10Put
/-! spec.l9Read -/
abbrev P_spec_l9Read : List PK := [.box [.own 2 YI, .dat YI, .own 2 YI, .dat .bool, .dat .bool, .dat .bool, .dat YI, .dat Y24, .own 2 YI] [.own 2 YI, .dat YI, .own 2 YI, .dat .bool, .dat .bool, .dat .bool, .dat YI, .dat Y24, .own 2 YI], .val YI]
abbrev R_spec_l9Read : List VK := [.s (.dat YI)]
def F_spec_l9Read (x : denP P_spec_l9Read) : Option (denV R_spec_l9Read × denQ P_spec_l9Read) :=
  if (x.2.1 == (1 : Int)) then
    let v1 := ((x.1.2.2.2.2.2.2.2.1.length : Nat) : Int)
    if (v1 == (0 : Int)) then
      some (((0 : Int), ()), (x.1, ()))
    else
      ((x.1.2.2.2.2.2.2.2.1)[((0 : Int)).toNat]?).bind fun y2 =>
      if 0 ≤ (1 : Int) ∧ (1 : Int) ≤ ((x.1.2.2.2.2.2.2.2.1.length : Nat) : Int) ∧ ((x.1.2.2.2.2.2.2.2.1.length : Nat) : Int) ≤ ((x.1.2.2.2.2.2.2.2.1.length : Nat) : Int) then
        let v3 := ((x.1.2.2.2.2.2.2.2.1.drop ((1 : Int)).toNat).take ((((x.1.2.2.2.2.2.2.2.1.length : Nat) : Int)).toNat - ((1 : Int)).toNat))
        some ((y2, ()), ((x.1.1, (x.1.2.1, (x.1.2.2.1, (x.1.2.2.2.1, (x.1.2.2.2.2.1, (x.1.2.2.2.2.2.1, (x.1.2.2.2.2.2.2.1, (v3, (x.1.2.2.2.2.2.2.2.2.1, ()))))))))), ()))
      else none
  else
    if (x.2.1 == (2 : Int)) then
      some ((x.1.2.2.2.2.2.2.1, ()), (x.1, ()))
    else
      if (x.2.1 == (3 : Int)) then
        if 0 ≤ (9 : Int) ∧ (9 : Int) < ((x.1.2.2.1.length : Nat) : Int) then
          ((x.1.2.2.1)[((9 : Int)).toNat]?).bind fun y4 =>
          some ((y4, ()), (x.1, ()))
        else none
      else
        if (x.2.1 == (4 : Int)) then
          (F_spec_l8Pending (x.1, ())).bind fun r5 =>
          some ((r5.1.1, ()), (x.1, ()))
        else
          if (x.2.1 == (6 : Int)) then
            let v6 := ((x.1.2.2.2.2.2.2.2.1.length : Nat) : Int)
            some ((v6, ()), (x.1, ()))
          else
            some (((0 : Int), ()), (x.1, ()))
abbrev C_spec_l9Read : Con := ⟨P_spec_l9Read, R_spec_l9Read, F_spec_l9Read, false⟩
abbrev G_spec_l9Read : Env := [(148, C_spec_l8Pending)]
theorem g_spec_l9Read : EnvOk Tryz.prog G_spec_l9Read := (env_cons s_spec_l8Pending env_nil)
theorem r_spec_l9Read (x) : runFn T G_spec_l9Read [] Tryz.f271 P_spec_l9Read R_spec_l9Read x = F_spec_l9Read x := by kernel_rfl
theorem s_spec_l9Read : CallsOk Tryz.prog 271 C_spec_l9Read :=
  fn_calls (L := []) hT g_spec_l9Read Tryz.f271 (by kernel_rfl) (by kernel_rfl) (by kernel_rfl) (plain_ok (by kernel_rfl)) r_spec_l9Read
/-! spec.l9Write -/
abbrev P_spec_l9Write : List PK := [.box [.own 2 YI, .dat YI, .own 2 YI, .dat .bool, .dat .bool, .dat .bool, .dat YI, .dat Y24, .own 2 YI] [.own 2 YI, .dat YI, .own 2 YI, .dat .bool, .dat .bool, .dat .bool, .dat YI, .dat Y24, .own 2 YI], .val YI, .val YI]
abbrev R_spec_l9Write : List VK := [.s (.dat YI)]
def F_spec_l9Write (x : denP P_spec_l9Write) : Option (denV R_spec_l9Write × denQ P_spec_l9Write) :=
  (F_spec_WrapWord (x.2.2.1, ())).bind fun r1 =>
  if (x.2.1 == (0 : Int)) then
    let v2 := ((x.1.2.2.2.2.2.2.2.2.1.length : Nat) : Int)
    if (ltI v2 (40 : Int)) then
      if (x.1.2.2.2.2.2.2.2.2.1.length + [r1.1.1].length) * 8 ≤ 140737488355328 then
        let v3 := (x.1.2.2.2.2.2.2.2.2.1 ++ [r1.1.1])
        some (((-1 : Int), ()), ((x.1.1, (x.1.2.1, (x.1.2.2.1, (x.1.2.2.2.1, (x.1.2.2.2.2.1, (x.1.2.2.2.2.2.1, (x.1.2.2.2.2.2.2.1, (x.1.2.2.2.2.2.2.2.1, (v3, ()))))))))), ()))
      else none
    else
      some (((-1 : Int), ()), (x.1, ()))
  else
    if (x.2.1 == (3 : Int)) then
      if 0 ≤ (9 : Int) ∧ (9 : Int) < ((x.1.2.2.1.length : Nat) : Int) then
        ((x.1.2.2.1)[((9 : Int)).toNat]?).bind fun y4 =>
        let v5 := (x.1.2.2.1.set ((9 : Int)).toNat r1.1.1)
        some (((-1 : Int), ()), ((x.1.1, (x.1.2.1, (v5, (x.1.2.2.2.1, (x.1.2.2.2.2.1, (x.1.2.2.2.2.2.1, (x.1.2.2.2.2.2.2.1, (x.1.2.2.2.2.2.2.2.1, (x.1.2.2.2.2.2.2.2.2.1, ()))))))))), ()))
      else none
    else
      if (x.2.1 == (4 : Int)) then
        (F_spec_l8Set (x.1, (6 : Int), r1.1.1, ())).bind fun r6 =>
        some (((-1 : Int), ()), (r6.2.1, ()))
      else
        if (x.2.1 == (5 : Int)) then
          some ((r1.1.1, ()), (x.1, ()))
        else
          some (((-1 : Int), ()), (x.1, ()))
abbrev C_spec_l9Write : Con := ⟨P_spec_l9Write, R_spec_l9Write, F_spec_l9Write, false⟩
abbrev G_spec_l9Write : Env := [(227, C_spec_l8Set), (274, C_spec_WrapWord)]
theorem g_spec_l9Write : EnvOk Tryz.prog G_spec_l9Write := (env_cons s_spec_l8Set (env_cons s_spec_WrapWord env_nil))
theorem r_spec_l9Write (x) : runFn T G_spec_l9Write [] Tryz.f272 P_spec_l9Write R_spec_l9Write x = F_spec_l9Write x := by kernel_rfl
theorem s_spec_l9Write : CallsOk Tryz.prog 272 C_spec_l9Write :=
  fn_calls (L := []) hT g_spec_l9Write Tryz.f272 (by kernel_rfl) (by kernel_rfl) (by kernel_rfl) (plain_ok (by kernel_rfl)) r_spec_l9Write
end Go.Proofs.YtajnommlfjfgpaaGreatDoor
