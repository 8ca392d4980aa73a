/- The functions of the laws, each as a plain function of data (F), and that the program's text does what F says. Printed by a program (wip/tools/gen.py). -/
import Derived.Test.YtkbcjonmodmfcaaGreatDoorGa1
namespace Go.Proofs.YtkbcjonmodmfcaaGreatDoor
open Go Go.RowKit S Go.Proofs
set_option maxRecDepth 100000
set_option linter.unusedVariables false
/-! impl.HartFault -/
abbrev P_impl_HartFault : List PK := [.val Y23]
abbrev R_impl_HartFault : List VK := [.s (.dat YI)]
def F_impl_HartFault (x : denP P_impl_HartFault) : Option (denV R_impl_HartFault × denQ P_impl_HartFault) :=
  let v1 := ((x.1.1.length : Nat) : Int)
  if (v1 != (16 : Int)) = false then
    let v2 := ((x.1.2.2.1.length : Nat) : Int)
    if (v2 != (11 : Int)) = false then
      ((x.1.1)[((0 : Int)).toNat]?).bind fun y3 =>
      if (y3 != (0 : Int)) then
        some (((1 : Int), ()), ())
      else
        (F_impl_areWords (x.1.1, ())).bind fun r4 =>
        if (!r4.1.1) = false then
          (F_impl_isWord (x.1.2.1, ())).bind fun r5 =>
          if (!r5.1.1) = false then
            (F_impl_areWords (x.1.2.2.1, ())).bind fun r6 =>
            if (!r6.1.1) = false then
              (F_impl_areWords (x.1.2.2.2.2.2.2.2.1, ())).bind fun r7 =>
              if (!r7.1.1) = false then
                (F_impl_areWords (x.1.2.2.2.2.2.2.2.2.1, ())).bind fun r8 =>
                if (!r8.1.1) then
                  some (((3 : Int), ()), ())
                else
                  let v9 := ((x.1.2.2.2.2.2.2.2.1.length : Nat) : Int)
                  if (ltI (40 : Int) v9) = false then
                    let v10 := ((x.1.2.2.2.2.2.2.2.2.1.length : Nat) : Int)
                    if (ltI (40 : Int) v10) then
                      some (((2 : Int), ()), ())
                    else
                      (F_impl_within (x.1.2.2.2.2.2.2.1, (0 : Int), (1000000000 : Int), ())).bind fun r11 =>
                      if (!r11.1.1) then
                        some (((3 : Int), ()), ())
                      else
                        ((x.1.2.2.1)[((0 : Int)).toNat]?).bind fun y12 =>
                        if (ltI (3 : Int) y12) = false then
                          ((x.1.2.2.1)[((7 : Int)).toNat]?).bind fun y13 =>
                          if (ltI (7 : Int) y13) = false then
                            ((x.1.2.2.1)[((10 : Int)).toNat]?).bind fun y14 =>
                            if (ltI (8 : Int) y14) = false then
                              ((x.1.2.2.1)[((6 : Int)).toNat]?).bind fun y15 =>
                              if (y15 != (0 : Int)) = false then
                                ((x.1.2.2.1)[((8 : Int)).toNat]?).bind fun y16 =>
                                if (y16 != (0 : Int)) then
                                  some (((1 : Int), ()), ())
                                else
                                  some (((0 : Int), ()), ())
                              else
                                some (((1 : Int), ()), ())
                            else
                              some (((1 : Int), ()), ())
                          else
                            some (((1 : Int), ()), ())
                        else
                          some (((1 : Int), ()), ())
                  else
                    some (((2 : Int), ()), ())
              else
                some (((3 : Int), ()), ())
            else
              some (((3 : Int), ()), ())
          else
            some (((3 : Int), ()), ())
        else
          some (((3 : Int), ()), ())
    else
      some (((1 : Int), ()), ())
  else
    some (((1 : Int), ()), ())
abbrev C_impl_HartFault : Con := ⟨P_impl_HartFault, R_impl_HartFault, F_impl_HartFault, false⟩
abbrev G_impl_HartFault : Env := [(67, C_impl_within), (76, C_impl_areWords), (77, C_impl_isWord)]
theorem g_impl_HartFault : EnvOk Tryz.prog G_impl_HartFault := (env_cons s_impl_within (env_cons s_impl_areWords (env_cons s_impl_isWord env_nil)))
theorem r_impl_HartFault (x) : runFn T G_impl_HartFault [] Tryz.f39 P_impl_HartFault R_impl_HartFault x = F_impl_HartFault x := by kernel_rfl
theorem s_impl_HartFault : CallsOk Tryz.prog 39 C_impl_HartFault :=
  fn_calls (L := []) hT g_impl_HartFault Tryz.f39 (by kernel_rfl) (by kernel_rfl) (by kernel_rfl) (plain_ok (by kernel_rfl)) r_impl_HartFault
/-! impl.PagesFault -/
abbrev P_impl_PagesFault : List PK := [.val Y25, .val YI]
abbrev R_impl_PagesFault : List VK := [.s (.dat YI)]
abbrev i_impl_PagesFault_6 : Shp := { slots := [(1, .s (.dat YI)), (15, .s (.dat Y25)), (16, .s (.dat YI)), (17, .s (.dat YI))], boxes := [], rows := [] }
abbrev o_impl_PagesFault_6 : List (Ex × Shp) := [(.exit 1, { slots := [], boxes := [], rows := [] }), (.ret, { slots := [(4, .s (.dat YI))], boxes := [], rows := [] })]
def l_impl_PagesFault_6 (rec : i_impl_PagesFault_6.den → Option (denO o_impl_PagesFault_6)) (u6 : i_impl_PagesFault_6.den) : Option (denO o_impl_PagesFault_6) :=
  if (ltI u6.1.2.2.2.1 u6.1.2.2.1) then
    if 0 ≤ u6.1.2.2.2.1 then
      ((u6.1.2.1)[(u6.1.2.2.2.1).toNat]?).bind fun y7 =>
      let v8 := (IntKind.i64.wrap (u6.1.1 - (1 : Int)))
      (F_impl_within (y7.1, (-1 : Int), v8, ())).bind fun r9 =>
      if (!r9.1.1) = false then
        (F_impl_within (y7.2.1, (0 : Int), (7 : Int), ())).bind fun r10 =>
        if (!r10.1.1) then
          some (.inr (.inl (((3 : Int), ()), ((), ()))))
        else
          if (y7.1 == (-1 : Int)) = true then
            if (y7.2.1 != (0 : Int)) then
              some (.inr (.inl (((1 : Int), ()), ((), ()))))
            else
              let v11 := (IntKind.i64.wrap (u6.1.2.2.2.1 + (1 : Int)))
              rec ((u6.1.1, (u6.1.2.1, (u6.1.2.2.1, (v11, ())))), ((), ()))
          else
            let v12 := (IntKind.i64.wrap (u6.1.2.2.2.1 + (1 : Int)))
            rec ((u6.1.1, (u6.1.2.1, (u6.1.2.2.1, (v12, ())))), ((), ()))
      else
        some (.inr (.inl (((3 : Int), ()), ((), ()))))
    else none
  else
    some (.inl ((), ((), ())))
def L_impl_PagesFault_6 (x : i_impl_PagesFault_6.den) : Option (denO o_impl_PagesFault_6) := iterF l_impl_PagesFault_6 lots x
def F_impl_PagesFault (x : denP P_impl_PagesFault) : Option (denV R_impl_PagesFault × denQ P_impl_PagesFault) :=
  (F_impl_within (x.2.1, (1 : Int), (24 : Int), ())).bind fun r1 =>
  if (!r1.1.1) then
    some (((3 : Int), ()), ())
  else
    let v2 := ((x.1.length : Nat) : Int)
    if (v2 != (8 : Int)) then
      some (((1 : Int), ()), ())
    else
      let v3 := ((x.1.length : Nat) : Int)
      (L_impl_PagesFault_6 ((x.2.1, (x.1, (v3, ((0 : Int), ())))), ((), ()))).bind fun z13 =>
      match z13 with
      | .inl x14 =>
        some (((0 : Int), ()), ())
      | .inr z13_ =>
        match z13_ with
        | .inl x15 =>
          some ((x15.1.1, ()), ())
        | .inr z13__ =>
          none
abbrev C_impl_PagesFault : Con := ⟨P_impl_PagesFault, R_impl_PagesFault, F_impl_PagesFault, false⟩
abbrev G_impl_PagesFault : Env := [(67, C_impl_within)]
theorem g_impl_PagesFault : EnvOk Tryz.prog G_impl_PagesFault := (env_cons s_impl_within env_nil)
abbrev c_impl_PagesFault_6 : Cut := ⟨i_impl_PagesFault_6, o_impl_PagesFault_6, fun x => iterF l_impl_PagesFault_6 lots x⟩
theorem t_impl_PagesFault_6 (rec x) : run T G_impl_PagesFault [] (nav Tryz.f114 [1, 1, 0, 1, 0, 0]) (mk 44 i_impl_PagesFault_6 x) (loopK i_impl_PagesFault_6 o_impl_PagesFault_6 rec) = l_impl_PagesFault_6 rec x := by kernel_rfl
theorem k_impl_PagesFault_6 : CutOk Tryz.prog 44 (.loop (nav Tryz.f114 [1, 1, 0, 1, 0, 0])) c_impl_PagesFault_6 :=
  loop_cut (L := []) hT g_impl_PagesFault t_impl_PagesFault_6 (plain_ok (by kernel_rfl)) _
theorem r_impl_PagesFault (x) : runFn T G_impl_PagesFault [(6, c_impl_PagesFault_6)] Tryz.f114 P_impl_PagesFault R_impl_PagesFault x = F_impl_PagesFault x := by kernel_rfl
theorem s_impl_PagesFault : CallsOk Tryz.prog 114 C_impl_PagesFault :=
  fn_calls (L := [(6, c_impl_PagesFault_6)]) hT g_impl_PagesFault Tryz.f114 (by kernel_rfl) (by kernel_rfl) (by kernel_rfl) (seq_ok (plain_ok (by kernel_rfl)) (seq_ok (plain_ok (by kernel_rfl)) (seq_ok (seq_ok (plain_ok (by kernel_rfl)) (block_ok (by kernel_rfl) (loop_ok (by kernel_rfl) k_impl_PagesFault_6))) (plain_ok (by kernel_rfl))))) r_impl_PagesFault
/-! impl.firstOf -/
abbrev P_impl_firstOf : List PK := [.val Y22]
abbrev R_impl_firstOf : List VK := [.s (.dat YI)]
abbrev i_impl_firstOf_2 : Shp := { slots := [(5, .s (.dat Y22)), (6, .s (.dat YI)), (7, .s (.dat YI))], boxes := [], rows := [] }
abbrev o_impl_firstOf_2 : List (Ex × Shp) := [(.exit 0, { slots := [], boxes := [], rows := [] }), (.ret, { slots := [(2, .s (.dat YI))], boxes := [], rows := [] })]
def l_impl_firstOf_2 (rec : i_impl_firstOf_2.den → Option (denO o_impl_firstOf_2)) (u2 : i_impl_firstOf_2.den) : Option (denO o_impl_firstOf_2) :=
  if (ltI u2.1.2.2.1 u2.1.2.1) then
    if 0 ≤ u2.1.2.2.1 then
      ((u2.1.1)[(u2.1.2.2.1).toNat]?).bind fun y3 =>
      if (y3 != (0 : Int)) then
        some (.inr (.inl ((y3, ()), ((), ()))))
      else
        let v4 := (IntKind.i64.wrap (u2.1.2.2.1 + (1 : Int)))
        rec ((u2.1.1, (u2.1.2.1, (v4, ()))), ((), ()))
    else none
  else
    some (.inl ((), ((), ())))
def L_impl_firstOf_2 (x : i_impl_firstOf_2.den) : Option (denO o_impl_firstOf_2) := iterF l_impl_firstOf_2 lots x
def F_impl_firstOf (x : denP P_impl_firstOf) : Option (denV R_impl_firstOf × denQ P_impl_firstOf) :=
  let v1 := ((x.1.length : Nat) : Int)
  (L_impl_firstOf_2 ((x.1, (v1, ((0 : Int), ()))), ((), ()))).bind fun z5 =>
  match z5 with
  | .inl x6 =>
    some (((0 : Int), ()), ())
  | .inr z5_ =>
    match z5_ with
    | .inl x7 =>
      some ((x7.1.1, ()), ())
    | .inr z5__ =>
      none
abbrev C_impl_firstOf : Con := ⟨P_impl_firstOf, R_impl_firstOf, F_impl_firstOf, false⟩
abbrev G_impl_firstOf : Env := []
theorem g_impl_firstOf : EnvOk Tryz.prog G_impl_firstOf := env_nil
abbrev c_impl_firstOf_2 : Cut := ⟨i_impl_firstOf_2, o_impl_firstOf_2, fun x => iterF l_impl_firstOf_2 lots x⟩
theorem t_impl_firstOf_2 (rec x) : run T G_impl_firstOf [] (nav Tryz.f113 [1, 0, 1, 0, 0]) (mk 15 i_impl_firstOf_2 x) (loopK i_impl_firstOf_2 o_impl_firstOf_2 rec) = l_impl_firstOf_2 rec x := by kernel_rfl
theorem k_impl_firstOf_2 : CutOk Tryz.prog 15 (.loop (nav Tryz.f113 [1, 0, 1, 0, 0])) c_impl_firstOf_2 :=
  loop_cut (L := []) hT g_impl_firstOf t_impl_firstOf_2 (plain_ok (by kernel_rfl)) _
theorem r_impl_firstOf (x) : runFn T G_impl_firstOf [(2, c_impl_firstOf_2)] Tryz.f113 P_impl_firstOf R_impl_firstOf x = F_impl_firstOf x := by kernel_rfl
theorem s_impl_firstOf : CallsOk Tryz.prog 113 C_impl_firstOf :=
  fn_calls (L := [(2, c_impl_firstOf_2)]) hT g_impl_firstOf Tryz.f113 (by kernel_rfl) (by kernel_rfl) (by kernel_rfl) (seq_ok (plain_ok (by kernel_rfl)) (seq_ok (seq_ok (plain_ok (by kernel_rfl)) (block_ok (by kernel_rfl) (loop_ok (by kernel_rfl) k_impl_firstOf_2))) (plain_ok (by kernel_rfl)))) r_impl_firstOf
/-! impl.MemoryFault -/
abbrev P_impl_MemoryFault : List PK := [.val Y22]
abbrev R_impl_MemoryFault : List VK := [.s (.dat YI)]
def F_impl_MemoryFault (x : denP P_impl_MemoryFault) : Option (denV R_impl_MemoryFault × denQ P_impl_MemoryFault) :=
  let v1 := ((x.1.length : Nat) : Int)
  if (v1 == (0 : Int)) = false then
    let v2 := ((x.1.length : Nat) : Int)
    if (ltI (192 : Int) v2) = false then
      let v3 := ((x.1.length : Nat) : Int)
      let v4 := ((v3).tmod (8 : Int))
      if (v4 != (0 : Int)) then
        some (((1 : Int), ()), ())
      else
        (F_impl_areWords (x.1, ())).bind fun r5 =>
        if (!r5.1.1) then
          some (((3 : Int), ()), ())
        else
          some (((0 : Int), ()), ())
    else
      some (((1 : Int), ()), ())
  else
    some (((1 : Int), ()), ())
abbrev C_impl_MemoryFault : Con := ⟨P_impl_MemoryFault, R_impl_MemoryFault, F_impl_MemoryFault, false⟩
abbrev G_impl_MemoryFault : Env := [(76, C_impl_areWords)]
theorem g_impl_MemoryFault : EnvOk Tryz.prog G_impl_MemoryFault := (env_cons s_impl_areWords env_nil)
theorem r_impl_MemoryFault (x) : runFn T G_impl_MemoryFault [] Tryz.f40 P_impl_MemoryFault R_impl_MemoryFault x = F_impl_MemoryFault x := by kernel_rfl
theorem s_impl_MemoryFault : CallsOk Tryz.prog 40 C_impl_MemoryFault :=
  fn_calls (L := []) hT g_impl_MemoryFault Tryz.f40 (by kernel_rfl) (by kernel_rfl) (by kernel_rfl) (plain_ok (by kernel_rfl)) r_impl_MemoryFault
/-! impl.stepFault.1 -/
abbrev P_impl_stepFault_1 : List PK := [.val Y67, .ptr YI]
abbrev R_impl_stepFault_1 : List VK := [.s (.dat .bool)]
def F_impl_stepFault_1 (x : denP P_impl_stepFault_1) : Option (denV R_impl_stepFault_1 × denQ P_impl_stepFault_1) :=
  some (((leI x.2.1 x.1.1), ()), ())
abbrev C_impl_stepFault_1 : Con := ⟨P_impl_stepFault_1, R_impl_stepFault_1, F_impl_stepFault_1, false⟩
abbrev G_impl_stepFault_1 : Env := []
theorem g_impl_stepFault_1 : EnvOk Tryz.prog G_impl_stepFault_1 := env_nil
theorem r_impl_stepFault_1 (x) : runFn T G_impl_stepFault_1 [] Tryz.f116 P_impl_stepFault_1 R_impl_stepFault_1 x = F_impl_stepFault_1 x := by kernel_rfl
theorem s_impl_stepFault_1 : CallsOk Tryz.prog 116 C_impl_stepFault_1 :=
  fn_calls (L := []) hT g_impl_stepFault_1 Tryz.f116 (by kernel_rfl) (by kernel_rfl) (by kernel_rfl) (plain_ok (by kernel_rfl)) r_impl_stepFault_1
/-! slices.IndexFunc[impl.Page,impl.Page] -/
abbrev P_slices_IndexFunc_impl_Page_of_impl_stepFault_1 : List PK := [.val Y25, .fn 116 [YI]]
abbrev R_slices_IndexFunc_impl_Page_of_impl_stepFault_1 : List VK := [.s (.dat YI)]
abbrev i_slices_IndexFunc_impl_Page_of_impl_stepFault_1_2 : Shp := { slots := [(0, .s (.dat Y25)), (1, .s (.fn 116 [YI])), (7, .s (.dat YI)), (8, .s (.dat YI))], boxes := [], rows := [] }
abbrev o_slices_IndexFunc_impl_Page_of_impl_stepFault_1_2 : List (Ex × Shp) := [(.exit 0, { slots := [], boxes := [], rows := [] }), (.ret, { slots := [(4, .s (.dat YI))], boxes := [], rows := [] })]
def l_slices_IndexFunc_impl_Page_of_impl_stepFault_1_2 (rec : i_slices_IndexFunc_impl_Page_of_impl_stepFault_1_2.den → Option (denO o_slices_IndexFunc_impl_Page_of_impl_stepFault_1_2)) (u2 : i_slices_IndexFunc_impl_Page_of_impl_stepFault_1_2.den) : Option (denO o_slices_IndexFunc_impl_Page_of_impl_stepFault_1_2) :=
  if (ltI u2.1.2.2.2.1 u2.1.2.2.1) then
    if 0 ≤ u2.1.2.2.2.1 then
      ((u2.1.1)[(u2.1.2.2.2.1).toNat]?).bind fun y4 =>
      (F_impl_stepFault_1 (y4, u2.1.2.1.1, ())).bind fun r5 =>
      if r5.1.1 then
        some (.inr (.inl ((u2.1.2.2.2.1, ()), ((), ()))))
      else
        let v6 := (IntKind.i64.wrap (u2.1.2.2.2.1 + (1 : Int)))
        rec ((u2.1.1, ((u2.1.2.1.1, ()), (u2.1.2.2.1, (v6, ())))), ((), ()))
    else none
  else
    some (.inl ((), ((), ())))
def L_slices_IndexFunc_impl_Page_of_impl_stepFault_1_2 (x : i_slices_IndexFunc_impl_Page_of_impl_stepFault_1_2.den) : Option (denO o_slices_IndexFunc_impl_Page_of_impl_stepFault_1_2) := iterF l_slices_IndexFunc_impl_Page_of_impl_stepFault_1_2 lots x
def F_slices_IndexFunc_impl_Page_of_impl_stepFault_1 (x : denP P_slices_IndexFunc_impl_Page_of_impl_stepFault_1) : Option (denV R_slices_IndexFunc_impl_Page_of_impl_stepFault_1 × denQ P_slices_IndexFunc_impl_Page_of_impl_stepFault_1) :=
  let v1 := ((x.1.length : Nat) : Int)
  (L_slices_IndexFunc_impl_Page_of_impl_stepFault_1_2 ((x.1, ((x.2.1.1, ()), (v1, ((0 : Int), ())))), ((), ()))).bind fun z7 =>
  match z7 with
  | .inl x8 =>
    some (((-1 : Int), ()), ())
  | .inr z7_ =>
    match z7_ with
    | .inl x9 =>
      some ((x9.1.1, ()), ())
    | .inr z7__ =>
      none
abbrev C_slices_IndexFunc_impl_Page_of_impl_stepFault_1 : Con := ⟨P_slices_IndexFunc_impl_Page_of_impl_stepFault_1, R_slices_IndexFunc_impl_Page_of_impl_stepFault_1, F_slices_IndexFunc_impl_Page_of_impl_stepFault_1, false⟩
abbrev G_slices_IndexFunc_impl_Page_of_impl_stepFault_1 : Env := [(116, C_impl_stepFault_1)]
theorem g_slices_IndexFunc_impl_Page_of_impl_stepFault_1 : EnvOk Tryz.prog G_slices_IndexFunc_impl_Page_of_impl_stepFault_1 := (env_cons s_impl_stepFault_1 env_nil)
abbrev c_slices_IndexFunc_impl_Page_of_impl_stepFault_1_2 : Cut := ⟨i_slices_IndexFunc_impl_Page_of_impl_stepFault_1_2, o_slices_IndexFunc_impl_Page_of_impl_stepFault_1_2, fun x => iterF l_slices_IndexFunc_impl_Page_of_impl_stepFault_1_2 lots x⟩
theorem t_slices_IndexFunc_impl_Page_of_impl_stepFault_1_2 (rec x) : run T G_slices_IndexFunc_impl_Page_of_impl_stepFault_1 [] (nav Tryz.f166 [1, 0, 1, 0, 0]) (mk 19 i_slices_IndexFunc_impl_Page_of_impl_stepFault_1_2 x) (loopK i_slices_IndexFunc_impl_Page_of_impl_stepFault_1_2 o_slices_IndexFunc_impl_Page_of_impl_stepFault_1_2 rec) = l_slices_IndexFunc_impl_Page_of_impl_stepFault_1_2 rec x := by kernel_rfl
theorem k_slices_IndexFunc_impl_Page_of_impl_stepFault_1_2 : CutOk Tryz.prog 19 (.loop (nav Tryz.f166 [1, 0, 1, 0, 0])) c_slices_IndexFunc_impl_Page_of_impl_stepFault_1_2 :=
  loop_cut (L := []) hT g_slices_IndexFunc_impl_Page_of_impl_stepFault_1 t_slices_IndexFunc_impl_Page_of_impl_stepFault_1_2 (plain_ok (by kernel_rfl)) _
theorem r_slices_IndexFunc_impl_Page_of_impl_stepFault_1 (x) : runFn T G_slices_IndexFunc_impl_Page_of_impl_stepFault_1 [(2, c_slices_IndexFunc_impl_Page_of_impl_stepFault_1_2)] Tryz.f166 P_slices_IndexFunc_impl_Page_of_impl_stepFault_1 R_slices_IndexFunc_impl_Page_of_impl_stepFault_1 x = F_slices_IndexFunc_impl_Page_of_impl_stepFault_1 x := by kernel_rfl
theorem s_slices_IndexFunc_impl_Page_of_impl_stepFault_1 : CallsOk Tryz.prog 166 C_slices_IndexFunc_impl_Page_of_impl_stepFault_1 :=
  fn_calls (L := [(2, c_slices_IndexFunc_impl_Page_of_impl_stepFault_1_2)]) hT g_slices_IndexFunc_impl_Page_of_impl_stepFault_1 Tryz.f166 (by kernel_rfl) (by kernel_rfl) (by kernel_rfl) (seq_ok (plain_ok (by kernel_rfl)) (seq_ok (seq_ok (plain_ok (by kernel_rfl)) (block_ok (by kernel_rfl) (loop_ok (by kernel_rfl) k_slices_IndexFunc_impl_Page_of_impl_stepFault_1_2))) (plain_ok (by kernel_rfl)))) r_slices_IndexFunc_impl_Page_of_impl_stepFault_1
/-! slices.ContainsFunc[impl.Page,impl.Page] -/
abbrev P_slices_ContainsFunc_impl_Page_of_impl_stepFault_1 : List PK := [.val Y25, .fn 116 [YI]]
abbrev R_slices_ContainsFunc_impl_Page_of_impl_stepFault_1 : List VK := [.s (.dat .bool)]
def F_slices_ContainsFunc_impl_Page_of_impl_stepFault_1 (x : denP P_slices_ContainsFunc_impl_Page_of_impl_stepFault_1) : Option (denV R_slices_ContainsFunc_impl_Page_of_impl_stepFault_1 × denQ P_slices_ContainsFunc_impl_Page_of_impl_stepFault_1) :=
  (F_slices_IndexFunc_impl_Page_of_impl_stepFault_1 (x.1, (x.2.1.1, ()), ())).bind fun r1 =>
  some (((leI (0 : Int) r1.1.1), ()), ())
abbrev C_slices_ContainsFunc_impl_Page_of_impl_stepFault_1 : Con := ⟨P_slices_ContainsFunc_impl_Page_of_impl_stepFault_1, R_slices_ContainsFunc_impl_Page_of_impl_stepFault_1, F_slices_ContainsFunc_impl_Page_of_impl_stepFault_1, false⟩
abbrev G_slices_ContainsFunc_impl_Page_of_impl_stepFault_1 : Env := [(166, C_slices_IndexFunc_impl_Page_of_impl_stepFault_1)]
theorem g_slices_ContainsFunc_impl_Page_of_impl_stepFault_1 : EnvOk Tryz.prog G_slices_ContainsFunc_impl_Page_of_impl_stepFault_1 := (env_cons s_slices_IndexFunc_impl_Page_of_impl_stepFault_1 env_nil)
theorem r_slices_ContainsFunc_impl_Page_of_impl_stepFault_1 (x) : runFn T G_slices_ContainsFunc_impl_Page_of_impl_stepFault_1 [] Tryz.f115 P_slices_ContainsFunc_impl_Page_of_impl_stepFault_1 R_slices_ContainsFunc_impl_Page_of_impl_stepFault_1 x = F_slices_ContainsFunc_impl_Page_of_impl_stepFault_1 x := by kernel_rfl
theorem s_slices_ContainsFunc_impl_Page_of_impl_stepFault_1 : CallsOk Tryz.prog 115 C_slices_ContainsFunc_impl_Page_of_impl_stepFault_1 :=
  fn_calls (L := []) hT g_slices_ContainsFunc_impl_Page_of_impl_stepFault_1 Tryz.f115 (by kernel_rfl) (by kernel_rfl) (by kernel_rfl) (plain_ok (by kernel_rfl)) r_slices_ContainsFunc_impl_Page_of_impl_stepFault_1
/-! impl.stepFault -/
abbrev P_impl_stepFault : List PK := [.val Y23, .val Y25, .val Y22]
abbrev R_impl_stepFault : List VK := [.s (.dat YI)]
def F_impl_stepFault (x : denP P_impl_stepFault) : Option (denV R_impl_stepFault × denQ P_impl_stepFault) :=
  (F_impl_HartFault (x.1, ())).bind fun r1 =>
  (F_impl_PagesFault (x.2.1, (24 : Int), ())).bind fun r2 =>
  (F_impl_firstOf ([r1.1.1, r2.1.1], ())).bind fun r3 =>
  if (r3.1.1 != (0 : Int)) then
    some ((r3.1.1, ()), ())
  else
    let v4 := ((x.2.2.1.length : Nat) : Int)
    let v5 := (IntKind.i64.wrap ((v4).tdiv (8 : Int)))
    (F_impl_MemoryFault (x.2.2.1, ())).bind fun r6 =>
    if (r6.1.1 != (0 : Int)) = false then
      (F_slices_ContainsFunc_impl_Page_of_impl_stepFault_1 (x.2.1, (v5, ()), ())).bind fun r7 =>
      if r7.1.1 then
        some (((1 : Int), ()), ())
      else
        some (((0 : Int), ()), ())
    else
      some (((1 : Int), ()), ())
abbrev C_impl_stepFault : Con := ⟨P_impl_stepFault, R_impl_stepFault, F_impl_stepFault, false⟩
abbrev G_impl_stepFault : Env := [(39, C_impl_HartFault), (40, C_impl_MemoryFault), (113, C_impl_firstOf), (114, C_impl_PagesFault), (115, C_slices_ContainsFunc_impl_Page_of_impl_stepFault_1)]
theorem g_impl_stepFault : EnvOk Tryz.prog G_impl_stepFault := (env_cons s_impl_HartFault (env_cons s_impl_MemoryFault (env_cons s_impl_firstOf (env_cons s_impl_PagesFault (env_cons s_slices_ContainsFunc_impl_Page_of_impl_stepFault_1 env_nil)))))
theorem r_impl_stepFault (x) : runFn T G_impl_stepFault [] Tryz.f66 P_impl_stepFault R_impl_stepFault x = F_impl_stepFault x := by kernel_rfl
theorem s_impl_stepFault : CallsOk Tryz.prog 66 C_impl_stepFault :=
  fn_calls (L := []) hT g_impl_stepFault Tryz.f66 (by kernel_rfl) (by kernel_rfl) (by kernel_rfl) (plain_ok (by kernel_rfl)) r_impl_stepFault
/-! slices.Clone[int64,int64] -/
abbrev P_slices_Clone_int64 : List PK := [.val Y22]
abbrev R_slices_Clone_int64 : List VK := [.s (.own 2 YI)]
def F_slices_Clone_int64 (x : denP P_slices_Clone_int64) : Option (denV R_slices_Clone_int64 × denQ P_slices_Clone_int64) :=
  if (([] : List (den YI)).length + x.1.length) * 8 ≤ 140737488355328 then some (([] ++ x.1, ()), ()) else none
abbrev C_slices_Clone_int64 : Con := ⟨P_slices_Clone_int64, R_slices_Clone_int64, F_slices_Clone_int64, false⟩
theorem s_slices_Clone_int64 : CallsOk Tryz.prog 117 C_slices_Clone_int64 :=
  nil_first hT (fn := Tryz.f117) (cn := C_slices_Clone_int64) (c0 := nav Tryz.f117 [0]) (ca := nav Tryz.f117 [1, 0, 1, 0]) (cb := nav Tryz.f117 [1, 1]) (id := 1) (d := 4) (nm := 1032000) (o1 := navOp Tryz.f117 [1, 0, 0] 0) (o2 := navOp Tryz.f117 [1, 0, 0] 1)
    (t := 22) (t' := 22) (x := .tmp 3) (r := ⟨Y22, [], 2, 24, 0⟩) (u := YI) (by kernel_rfl) (by kernel_rfl) (by kernel_rfl) ⟨by kernel_rfl, by kernel_rfl⟩ (fun y => by kernel_rfl) (by kernel_rfl) (by kernel_rfl) (by kernel_rfl) (by kernel_rfl) (by kernel_rfl) rfl
    (fun y => (st0 Tryz.f117 P_slices_Clone_int64 y).set 2 (.s .nls)) (fun y => ((st0 Tryz.f117 P_slices_Clone_int64 y).set 2 (.s .nls)).set 3 (.s (.d (.slice YI) y.1))) (fun y => y.1)
    (fun y => by kernel_rfl) (fun y => by kernel_rfl) (fun y => by kernel_rfl) (fun y => Nat.le_of_ble_eq_true (by kernel_rfl)) (fun y => by kernel_rfl) (by kernel_rfl) (by kernel_rfl) (by kernel_rfl) (fun y => by kernel_rfl)
    (fun y h => by obtain ⟨l, v⟩ := y; have h : l = [] := h; subst h; show run _ _ _ _ _ _ = F_slices_Clone_int64 ([], v); kernel_rfl) (fun y => by kernel_rfl)
/-! (impl.Hart).own -/
abbrev P_impl_Hart_own : List PK := [.val Y23]
abbrev R_impl_Hart_own : List VK := [.g [.own 2 YI, .dat YI, .own 2 YI, .dat .bool, .dat .bool, .dat .bool, .dat YI, .own 2 YI, .own 2 YI]]
def F_impl_Hart_own (x : denP P_impl_Hart_own) : Option (denV R_impl_Hart_own × denQ P_impl_Hart_own) :=
  (F_slices_Clone_int64 (x.1.1, ())).bind fun r1 =>
  (F_slices_Clone_int64 (x.1.2.2.1, ())).bind fun r2 =>
  (F_slices_Clone_int64 (x.1.2.2.2.2.2.2.2.1, ())).bind fun r3 =>
  (F_slices_Clone_int64 (x.1.2.2.2.2.2.2.2.2.1, ())).bind fun r4 =>
  some (((r1.1.1, (x.1.2.1, (r2.1.1, (x.1.2.2.2.1, (x.1.2.2.2.2.1, (x.1.2.2.2.2.2.1, (x.1.2.2.2.2.2.2.1, (r3.1.1, (r4.1.1, ()))))))))), ()), ())
abbrev C_impl_Hart_own : Con := ⟨P_impl_Hart_own, R_impl_Hart_own, F_impl_Hart_own, false⟩
abbrev G_impl_Hart_own : Env := [(117, C_slices_Clone_int64)]
theorem g_impl_Hart_own : EnvOk Tryz.prog G_impl_Hart_own := (env_cons s_slices_Clone_int64 env_nil)
theorem r_impl_Hart_own (x) : runFn T G_impl_Hart_own [] Tryz.f100 P_impl_Hart_own R_impl_Hart_own x = F_impl_Hart_own x := by kernel_rfl
theorem s_impl_Hart_own : CallsOk Tryz.prog 100 C_impl_Hart_own :=
  fn_calls (L := []) hT g_impl_Hart_own Tryz.f100 (by kernel_rfl) (by kernel_rfl) (by kernel_rfl) (plain_ok (by kernel_rfl)) r_impl_Hart_own
/-! (*impl.Hart).pending -/
abbrev P_impl_Hart_pending : List PK := [.ptr Y23]
abbrev R_impl_Hart_pending : List VK := [.s (.dat YI)]
def F_impl_Hart_pending (x : denP P_impl_Hart_pending) : Option (denV R_impl_Hart_pending × denQ P_impl_Hart_pending) :=
  ((x.1.2.2.1)[((9 : Int)).toNat]?).bind fun y1 =>
  if (y1 != (0 : Int)) = true then
    ((x.1.2.2.1)[((9 : Int)).toNat]?).bind fun y2 =>
    if (leI y2 x.1.2.2.2.2.2.2.1) then
      let v3 := (ior .i64 (0 : Int) (1 : Int))
      if x.1.2.2.2.2.2.1 then
        let v4 := (ior .i64 v3 (2 : Int))
        let v5 := ((x.1.2.2.2.2.2.2.2.1.length : Nat) : Int)
        if (ltI (0 : Int) v5) then
          let v6 := (ior .i64 v4 (4 : Int))
          some ((v6, ()), ())
        else
          some ((v4, ()), ())
      else
        let v7 := ((x.1.2.2.2.2.2.2.2.1.length : Nat) : Int)
        if (ltI (0 : Int) v7) then
          let v8 := (ior .i64 v3 (4 : Int))
          some ((v8, ()), ())
        else
          some ((v3, ()), ())
    else
      if x.1.2.2.2.2.2.1 then
        let v9 := (ior .i64 (0 : Int) (2 : Int))
        let v10 := ((x.1.2.2.2.2.2.2.2.1.length : Nat) : Int)
        if (ltI (0 : Int) v10) then
          let v11 := (ior .i64 v9 (4 : Int))
          some ((v11, ()), ())
        else
          some ((v9, ()), ())
      else
        let v12 := ((x.1.2.2.2.2.2.2.2.1.length : Nat) : Int)
        if (ltI (0 : Int) v12) then
          let v13 := (ior .i64 (0 : Int) (4 : Int))
          some ((v13, ()), ())
        else
          some (((0 : Int), ()), ())
  else
    if x.1.2.2.2.2.2.1 then
      let v14 := (ior .i64 (0 : Int) (2 : Int))
      let v15 := ((x.1.2.2.2.2.2.2.2.1.length : Nat) : Int)
      if (ltI (0 : Int) v15) then
        let v16 := (ior .i64 v14 (4 : Int))
        some ((v16, ()), ())
      else
        some ((v14, ()), ())
    else
      let v17 := ((x.1.2.2.2.2.2.2.2.1.length : Nat) : Int)
      if (ltI (0 : Int) v17) then
        let v18 := (ior .i64 (0 : Int) (4 : Int))
        some ((v18, ()), ())
      else
        some (((0 : Int), ()), ())
abbrev C_impl_Hart_pending : Con := ⟨P_impl_Hart_pending, R_impl_Hart_pending, F_impl_Hart_pending, false⟩
abbrev G_impl_Hart_pending : Env := []
theorem g_impl_Hart_pending : EnvOk Tryz.prog G_impl_Hart_pending := env_nil
theorem r_impl_Hart_pending (x) : runFn T G_impl_Hart_pending [] Tryz.f133 P_impl_Hart_pending R_impl_Hart_pending x = F_impl_Hart_pending x := by kernel_rfl
theorem s_impl_Hart_pending : CallsOk Tryz.prog 133 C_impl_Hart_pending :=
  fn_calls (L := []) hT g_impl_Hart_pending Tryz.f133 (by kernel_rfl) (by kernel_rfl) (by kernel_rfl) (plain_ok (by kernel_rfl)) r_impl_Hart_pending
/-! math/bits.TrailingZeros64 -/
abbrev P_math_bits_TrailingZeros64 : List PK := [.val (.int .u64)]
abbrev R_math_bits_TrailingZeros64 : List VK := [.s (.dat YI)]
def tzF (n : Int) : Option Int := if n = 1 ∨ n = 3 ∨ n = 5 ∨ n = 7 then some 0 else if n = 2 ∨ n = 6 then some 1 else if n = 4 then some 2 else none
def F_math_bits_TrailingZeros64 (x : denP P_math_bits_TrailingZeros64) : Option (denV R_math_bits_TrailingZeros64 × denQ P_math_bits_TrailingZeros64) := match tzF x.1 with | some z => some ((z, ()), ()) | none => none
abbrev C_math_bits_TrailingZeros64 : Con := ⟨P_math_bits_TrailingZeros64, R_math_bits_TrailingZeros64, F_math_bits_TrailingZeros64, false⟩
theorem w_math_bits_TrailingZeros64 (n : Int) (k : Nat) (z : Int) (hn : (n == 0) = false) (w : World) (hr : 0 ≤ IntKind.u64.wrap (bits BinOp.and IntKind.u64 n (IntKind.u64.wrap (-n)) * 285870213051353865) / 288230376151711744 ∧ IntKind.u64.wrap (bits BinOp.and IntKind.u64 n (IntKind.u64.wrap (-n)) * 285870213051353865) / 288230376151711744 < 64)
    (he : (IntKind.u64.wrap (bits BinOp.and IntKind.u64 n (IntKind.u64.wrap (-n)) * 285870213051353865) / 288230376151711744).toNat = k)
    (h : w.cell? { block := 0, off := k } = some (.int .u8 z)) (hz : IntKind.i64.wrap z = z) : Calls Tryz.prog 134 #[.int .u64 n] w fun e' w' => e' = .returned (.int .i64 z) ∧ w' = w := by
  go_enter Tryz.func134, Tryz.ntmps134
  go_wp2
  all_goals first | (go_ret; exact ⟨rfl, rfl⟩) | exact absurd hr ‹¬ _› | simp_all
theorem v_math_bits_TrailingZeros64 {n z : Int} (h : tzF n = some z) {M : Nat → Nat → Prop} {w : World} (hl : Laid M w) : Calls Tryz.prog 134 #[.int .u64 n] w fun e' w' => e' = .returned (.int .i64 z) ∧ w' = w := by
  have hg : ∀ i v, (0, i, v) ∈ GL → w.cell? { block := 0, off := i } = some v := by
    intro i v hm
    obtain ⟨⟨c, e, fz, h1, h2⟩, _⟩ := hl _ hm
    simp only at h1 h2
    simp [World.cell?, h1, h2]
  have g0 := hg 0 (.int .u8 0) (by simp [GL])
  have g1 := hg 1 (.int .u8 1) (by simp [GL])
  have g3 := hg 3 (.int .u8 2) (by simp [GL])
  have key : ((n = 1 ∨ n = 3 ∨ n = 5 ∨ n = 7) ∧ z = 0) ∨ ((n = 2 ∨ n = 6) ∧ z = 1) ∨ (n = 4 ∧ z = 2) := by
    unfold tzF at h
    split at h
    · exact .inl ⟨‹_›, (Option.some.inj h).symm⟩
    · split at h
      · exact .inr (.inl ⟨‹_›, (Option.some.inj h).symm⟩)
      · split at h
        · exact .inr (.inr ⟨‹_›, (Option.some.inj h).symm⟩)
        · cases h
  clear h
  rcases key with ⟨h | h | h | h, rfl⟩ | ⟨h | h, rfl⟩ | ⟨h, rfl⟩ <;> subst h
  all_goals first
    | exact w_math_bits_TrailingZeros64 _ 0 _ (by decide) w (by decide +kernel) (by decide +kernel) g0 (by decide +kernel)
    | exact w_math_bits_TrailingZeros64 _ 1 _ (by decide) w (by decide +kernel) (by decide +kernel) g1 (by decide +kernel)
    | exact w_math_bits_TrailingZeros64 _ 3 _ (by decide) w (by decide +kernel) (by decide +kernel) g3 (by decide +kernel)
theorem u_math_bits_TrailingZeros64 : Sound Tryz.prog 134 C_math_bits_TrailingZeros64 := by
  intro x y hx w args S Q B M F hp ha _
  obtain ⟨v, vs', rfl, ⟨cs, h1, h2⟩, rfl, rfl⟩ := ha
  have e1 : v = .int .u64 x.1 := by
    have h1 : cs = [v] := h1
    subst h1
    simpa [Rp] using h2
  subst e1
  have hx : F_math_bits_TrailingZeros64 x = some y := hx
  unfold F_math_bits_TrailingZeros64 at hx
  split at hx
  · rename_i z hz
    obtain rfl := Option.some.inj hx
    refine (v_math_bits_TrailingZeros64 hz hp.laid).mono fun r w' h => ?_
    obtain ⟨rfl, rfl⟩ := h
    refine ⟨_, rfl, Kept.refl M w', [.int .i64 z], [], [], rfl, ⟨_, [], [], [], rfl, rfl, ⟨⟨[.int .i64 z], rfl, rfl⟩, rfl⟩, rfl, rfl⟩, ⟨_, [], rfl, rfl, rfl⟩, List.nodup_nil, fun b hb => by cases hb⟩
  · cases hx
theorem s_math_bits_TrailingZeros64 : CallsOk Tryz.prog 134 C_math_bits_TrailingZeros64 := (u_math_bits_TrailingZeros64).ok (enter_ok Tryz.func134 (by decide +kernel) (by kernel_rfl))
/-! (*impl.Hart).due -/
abbrev P_impl_Hart_due : List PK := [.ptr Y23]
abbrev R_impl_Hart_due : List VK := [.s (.dat YI)]
def F_impl_Hart_due (x : denP P_impl_Hart_due) : Option (denV R_impl_Hart_due × denQ P_impl_Hart_due) :=
  (F_impl_Hart_pending (x.1, ())).bind fun r1 =>
  ((x.1.2.2.1)[((7 : Int)).toNat]?).bind fun y2 =>
  let v3 := (iand .i64 r1.1.1 y2)
  ((x.1.2.2.1)[((0 : Int)).toNat]?).bind fun y4 =>
  let v5 := ((y4).tmod (2 : Int))
  if (v5 == (0 : Int)) = false then
    if (v3 == (0 : Int)) then
      some (((-1 : Int), ()), ())
    else
      let v6 := (IntKind.u64.wrap v3)
      (F_math_bits_TrailingZeros64 (v6, ())).bind fun r7 =>
      some ((r7.1.1, ()), ())
  else
    some (((-1 : Int), ()), ())
abbrev C_impl_Hart_due : Con := ⟨P_impl_Hart_due, R_impl_Hart_due, F_impl_Hart_due, false⟩
abbrev G_impl_Hart_due : Env := [(133, C_impl_Hart_pending), (134, C_math_bits_TrailingZeros64)]
theorem g_impl_Hart_due : EnvOk Tryz.prog G_impl_Hart_due := (env_cons s_impl_Hart_pending (env_cons s_math_bits_TrailingZeros64 env_nil))
theorem r_impl_Hart_due (x) : runFn T G_impl_Hart_due [] Tryz.f83 P_impl_Hart_due R_impl_Hart_due x = F_impl_Hart_due x := by kernel_rfl
theorem s_impl_Hart_due : CallsOk Tryz.prog 83 C_impl_Hart_due :=
  fn_calls (L := []) hT g_impl_Hart_due Tryz.f83 (by kernel_rfl) (by kernel_rfl) (by kernel_rfl) (plain_ok (by kernel_rfl)) r_impl_Hart_due
/-! (*impl.Hart).trap -/
abbrev P_impl_Hart_trap : List PK := [.box [.own 2 YI, .dat YI, .own 2 YI, .dat .bool, .dat .bool, .dat .bool, .dat YI, .own 2 YI, .own 2 YI] [.own 2 YI, .dat YI, .own 2 YI, .dat .bool, .dat .bool, .dat .bool, .dat YI, .own 2 YI, .own 2 YI], .val YI, .val YI]
abbrev R_impl_Hart_trap : List VK := []
def F_impl_Hart_trap (x : denP P_impl_Hart_trap) : Option (denV R_impl_Hart_trap × denQ P_impl_Hart_trap) :=
  if 0 ≤ (2 : Int) ∧ (2 : Int) < ((x.1.2.2.1.length : Nat) : Int) then
    ((x.1.2.2.1)[((2 : Int)).toNat]?).bind fun y1 =>
    let v2 := (x.1.2.2.1.set ((2 : Int)).toNat x.1.2.1)
    if 0 ≤ (3 : Int) ∧ (3 : Int) < ((v2.length : Nat) : Int) then
      ((v2)[((3 : Int)).toNat]?).bind fun y3 =>
      let v4 := (v2.set ((3 : Int)).toNat x.2.1)
      if 0 ≤ (4 : Int) ∧ (4 : Int) < ((v4.length : Nat) : Int) then
        ((v4)[((4 : Int)).toNat]?).bind fun y5 =>
        let v6 := (v4.set ((4 : Int)).toNat x.2.2.1)
        if 0 ≤ (0 : Int) ∧ (0 : Int) < ((v6.length : Nat) : Int) then
          ((v6)[((0 : Int)).toNat]?).bind fun y7 =>
          let v8 := ((y7).tmod (2 : Int))
          let v9 := (IntKind.i64.wrap (v8 * (2 : Int)))
          if 0 ≤ (0 : Int) ∧ (0 : Int) < ((v6.length : Nat) : Int) then
            ((v6)[((0 : Int)).toNat]?).bind fun y10 =>
            let v11 := (v6.set ((0 : Int)).toNat v9)
            if 0 ≤ (1 : Int) ∧ (1 : Int) < ((v11.length : Nat) : Int) then
              ((v11)[((1 : Int)).toNat]?).bind fun y12 =>
              some ((), ((x.1.1, (y12, (v11, (x.1.2.2.2.1, (false, (x.1.2.2.2.2.2.1, (x.1.2.2.2.2.2.2.1, (x.1.2.2.2.2.2.2.2.1, (x.1.2.2.2.2.2.2.2.2.1, ()))))))))), ()))
            else none
          else none
        else none
      else none
    else none
  else none
abbrev C_impl_Hart_trap : Con := ⟨P_impl_Hart_trap, R_impl_Hart_trap, F_impl_Hart_trap, false⟩
abbrev G_impl_Hart_trap : Env := []
theorem g_impl_Hart_trap : EnvOk Tryz.prog G_impl_Hart_trap := env_nil
theorem r_impl_Hart_trap (x) : runFn T G_impl_Hart_trap [] Tryz.f199 P_impl_Hart_trap R_impl_Hart_trap x = F_impl_Hart_trap x := by kernel_rfl
theorem s_impl_Hart_trap : CallsOk Tryz.prog 199 C_impl_Hart_trap :=
  fn_calls (L := []) hT g_impl_Hart_trap Tryz.f199 (by kernel_rfl) (by kernel_rfl) (by kernel_rfl) (plain_ok (by kernel_rfl)) r_impl_Hart_trap
/-! (*impl.core).fail -/
abbrev P_impl_core_fail : List PK := [.box [.own 2 YI, .dat YI, .own 2 YI, .dat .bool, .dat .bool, .dat .bool, .dat YI, .own 2 YI, .own 2 YI, .dat Y25, .own 2 YI, .dat YI, .dat YI] [.own 2 YI, .dat YI, .own 2 YI, .dat .bool, .dat .bool, .dat .bool, .dat YI, .own 2 YI, .own 2 YI, .dat Y25, .own 2 YI, .dat YI, .dat YI], .val YI, .val YI]
abbrev R_impl_core_fail : List VK := []
def F_impl_core_fail (x : denP P_impl_core_fail) : Option (denV R_impl_core_fail × denQ P_impl_core_fail) :=
  (F_impl_Hart_trap ((x.1.1, (x.1.2.1, (x.1.2.2.1, (x.1.2.2.2.1, (x.1.2.2.2.2.1, (x.1.2.2.2.2.2.1, (x.1.2.2.2.2.2.2.1, (x.1.2.2.2.2.2.2.2.1, (x.1.2.2.2.2.2.2.2.2.1, ()))))))))), x.2.1, x.2.2.1, ())).bind fun r1 =>
  some ((), ((r1.2.1.1, (r1.2.1.2.1, (r1.2.1.2.2.1, (r1.2.1.2.2.2.1, (r1.2.1.2.2.2.2.1, (r1.2.1.2.2.2.2.2.1, (r1.2.1.2.2.2.2.2.2.1, (r1.2.1.2.2.2.2.2.2.2.1, (r1.2.1.2.2.2.2.2.2.2.2.1, (x.1.2.2.2.2.2.2.2.2.2.1, (x.1.2.2.2.2.2.2.2.2.2.2.1, (x.2.1, (x.1.2.2.2.2.2.2.2.2.2.2.2.2.1, ()))))))))))))), ()))
abbrev C_impl_core_fail : Con := ⟨P_impl_core_fail, R_impl_core_fail, F_impl_core_fail, false⟩
abbrev G_impl_core_fail : Env := [(199, C_impl_Hart_trap)]
theorem g_impl_core_fail : EnvOk Tryz.prog G_impl_core_fail := (env_cons s_impl_Hart_trap env_nil)
theorem r_impl_core_fail (x) : runFn T G_impl_core_fail [] Tryz.f167 P_impl_core_fail R_impl_core_fail x = F_impl_core_fail x := by kernel_rfl
theorem s_impl_core_fail : CallsOk Tryz.prog 167 C_impl_core_fail :=
  fn_calls (L := []) hT g_impl_core_fail Tryz.f167 (by kernel_rfl) (by kernel_rfl) (by kernel_rfl) (plain_ok (by kernel_rfl)) r_impl_core_fail
/-! impl.pageOf -/
abbrev P_impl_pageOf : List PK := [.val Y22, .val YI]
abbrev R_impl_pageOf : List VK := [.s (.own 2 YI)]
def F_impl_pageOf (x : denP P_impl_pageOf) : Option (denV R_impl_pageOf × denQ P_impl_pageOf) :=
  let v1 := (IntKind.i64.wrap (x.2.1 * (8 : Int)))
  let v2 := (IntKind.i64.wrap (x.2.1 + (1 : Int)))
  let v3 := (IntKind.i64.wrap (v2 * (8 : Int)))
  if 0 ≤ v1 ∧ v1 ≤ v3 ∧ v3 ≤ ((x.1.length : Nat) : Int) then
    let v4 := ((x.1.drop (v1).toNat).take ((v3).toNat - (v1).toNat))
    (F_slices_Clone_int64 (v4, ())).bind fun r5 =>
    some ((r5.1.1, ()), ())
  else none
abbrev C_impl_pageOf : Con := ⟨P_impl_pageOf, R_impl_pageOf, F_impl_pageOf, false⟩
abbrev G_impl_pageOf : Env := [(117, C_slices_Clone_int64)]
theorem g_impl_pageOf : EnvOk Tryz.prog G_impl_pageOf := (env_cons s_slices_Clone_int64 env_nil)
theorem r_impl_pageOf (x) : runFn T G_impl_pageOf [] Tryz.f97 P_impl_pageOf R_impl_pageOf x = F_impl_pageOf x := by kernel_rfl
theorem s_impl_pageOf : CallsOk Tryz.prog 97 C_impl_pageOf :=
  fn_calls (L := []) hT g_impl_pageOf Tryz.f97 (by kernel_rfl) (by kernel_rfl) (by kernel_rfl) (plain_ok (by kernel_rfl)) r_impl_pageOf
/-! impl.nowhere -/
abbrev P_impl_nowhere : List PK := []
abbrev R_impl_nowhere : List VK := [.s (.dat Y67)]
def F_impl_nowhere (x : denP P_impl_nowhere) : Option (denV R_impl_nowhere × denQ P_impl_nowhere) :=
  some ((((-1 : Int), ((0 : Int), ())), ()), ())
abbrev C_impl_nowhere : Con := ⟨P_impl_nowhere, R_impl_nowhere, F_impl_nowhere, false⟩
abbrev G_impl_nowhere : Env := []
theorem g_impl_nowhere : EnvOk Tryz.prog G_impl_nowhere := env_nil
theorem r_impl_nowhere (x) : runFn T G_impl_nowhere [] Tryz.f152 P_impl_nowhere R_impl_nowhere x = F_impl_nowhere x := by kernel_rfl
theorem s_impl_nowhere : CallsOk Tryz.prog 152 C_impl_nowhere :=
  fn_calls (L := []) hT g_impl_nowhere Tryz.f152 (by kernel_rfl) (by kernel_rfl) (by kernel_rfl) (plain_ok (by kernel_rfl)) r_impl_nowhere
/-! impl.entryOf -/
abbrev P_impl_entryOf : List PK := [.val YI]
abbrev R_impl_entryOf : List VK := [.s (.dat Y67)]
def F_impl_entryOf (x : denP P_impl_entryOf) : Option (denV R_impl_entryOf × denQ P_impl_entryOf) :=
  let v1 := (IntKind.i64.wrap ((x.1).tdiv (8 : Int)))
  let v2 := ((x.1).tmod (8 : Int))
  if (v2 == (0 : Int)) = false then
    if (leI (8 : Int) v1) then
      (F_impl_nowhere ()).bind fun r3 =>
      some ((r3.1.1, ()), ())
    else
      some (((v1, (v2, ())), ()), ())
  else
    (F_impl_nowhere ()).bind fun r4 =>
    some ((r4.1.1, ()), ())
abbrev C_impl_entryOf : Con := ⟨P_impl_entryOf, R_impl_entryOf, F_impl_entryOf, false⟩
abbrev G_impl_entryOf : Env := [(152, C_impl_nowhere)]
theorem g_impl_entryOf : EnvOk Tryz.prog G_impl_entryOf := (env_cons s_impl_nowhere env_nil)
theorem r_impl_entryOf (x) : runFn T G_impl_entryOf [] Tryz.f212 P_impl_entryOf R_impl_entryOf x = F_impl_entryOf x := by kernel_rfl
theorem s_impl_entryOf : CallsOk Tryz.prog 212 C_impl_entryOf :=
  fn_calls (L := []) hT g_impl_entryOf Tryz.f212 (by kernel_rfl) (by kernel_rfl) (by kernel_rfl) (plain_ok (by kernel_rfl)) r_impl_entryOf
/-! impl.PagesFrom -/
abbrev P_impl_PagesFrom : List PK := [.val Y22]
abbrev R_impl_PagesFrom : List VK := [.g [.dat YI, .own 68 Y67]]
abbrev i_impl_PagesFrom_7 : Shp := { slots := [(2, .s (.ptr 2 0)), (3, .s (.own 68 Y67)), (15, .s (.dat Y22)), (16, .s (.dat YI)), (17, .s (.dat YI))], boxes := [(2, [.dat YI, .own 68 Y67])], rows := [] }
abbrev o_impl_PagesFrom_7 : List (Ex × Shp) := [(.exit 0, { slots := [(2, .s (.ptr 2 0)), (3, .s (.own 68 Y67))], boxes := [(2, [.dat YI, .own 68 Y67])], rows := [] })]
def l_impl_PagesFrom_7 (rec : i_impl_PagesFrom_7.den → Option (denO o_impl_PagesFrom_7)) (u7 : i_impl_PagesFrom_7.den) : Option (denO o_impl_PagesFrom_7) :=
  if (ltI u7.1.2.2.2.2.1 u7.1.2.2.2.1) then
    if 0 ≤ u7.1.2.2.2.2.1 then
      ((u7.1.2.2.1)[(u7.1.2.2.2.2.1).toNat]?).bind fun y6 =>
      (F_impl_entryOf (y6, ())).bind fun r7 =>
      if (u7.1.2.1.length + [r7.1.1].length) * 16 ≤ 140737488355328 then
        let v8 := (u7.1.2.1 ++ [r7.1.1])
        let v9 := (IntKind.i64.wrap (u7.1.2.2.2.2.1 + (1 : Int)))
        rec (((), (v8, (u7.1.2.2.1, (u7.1.2.2.2.1, (v9, ()))))), ((u7.2.1.1, ()), ()))
      else none
    else none
  else
    some (.inl (((), (u7.1.2.1, ())), ((u7.2.1.1, ()), ())))
def L_impl_PagesFrom_7 (x : i_impl_PagesFrom_7.den) : Option (denO o_impl_PagesFrom_7) := iterF l_impl_PagesFrom_7 lots x
def F_impl_PagesFrom (x : denP P_impl_PagesFrom) : Option (denV R_impl_PagesFrom × denQ P_impl_PagesFrom) :=
  let v1 := ((x.1.length : Nat) : Int)
  if (v1 != (8 : Int)) then
    some ((((1 : Int), (([] : List (den Y67)), ())), ()), ())
  else
    (F_impl_areWords (x.1, ())).bind fun r2 =>
    if (!r2.1.1) then
      some ((((3 : Int), (([] : List (den Y67)), ())), ()), ())
    else
      let v3 := ((x.1.length : Nat) : Int)
      (L_impl_PagesFrom_7 (((), (([] : List (den Y67)), (x.1, (v3, ((0 : Int), ()))))), ((((0 : Int), (([] : List (den Y67)), ())), ()), ()))).bind fun z10 =>
      match z10 with
      | .inl x11 =>
        some ((((0 : Int), (x11.1.2.1, ())), ()), ())
      | .inr z10_ =>
        none
abbrev C_impl_PagesFrom : Con := ⟨P_impl_PagesFrom, R_impl_PagesFrom, F_impl_PagesFrom, false⟩
abbrev G_impl_PagesFrom : Env := [(76, C_impl_areWords), (212, C_impl_entryOf)]
theorem g_impl_PagesFrom : EnvOk Tryz.prog G_impl_PagesFrom := (env_cons s_impl_areWords (env_cons s_impl_entryOf env_nil))
abbrev c_impl_PagesFrom_7 : Cut := ⟨i_impl_PagesFrom_7, o_impl_PagesFrom_7, fun x => iterF l_impl_PagesFrom_7 lots x⟩
theorem t_impl_PagesFrom_7 (rec x) : run T G_impl_PagesFrom [] (nav Tryz.f177 [1, 1, 1, 1, 0, 1, 0, 0]) (mk 29 i_impl_PagesFrom_7 x) (loopK i_impl_PagesFrom_7 o_impl_PagesFrom_7 rec) = l_impl_PagesFrom_7 rec x := by kernel_rfl
theorem k_impl_PagesFrom_7 : CutOk Tryz.prog 29 (.loop (nav Tryz.f177 [1, 1, 1, 1, 0, 1, 0, 0])) c_impl_PagesFrom_7 :=
  loop_cut (L := []) hT g_impl_PagesFrom t_impl_PagesFrom_7 (plain_ok (by kernel_rfl)) _
theorem r_impl_PagesFrom (x) : runFn T G_impl_PagesFrom [(7, c_impl_PagesFrom_7)] Tryz.f177 P_impl_PagesFrom R_impl_PagesFrom x = F_impl_PagesFrom x := by kernel_rfl
theorem s_impl_PagesFrom : CallsOk Tryz.prog 177 C_impl_PagesFrom :=
  fn_calls (L := [(7, c_impl_PagesFrom_7)]) hT g_impl_PagesFrom Tryz.f177 (by kernel_rfl) (by kernel_rfl) (by kernel_rfl) (seq_ok (plain_ok (by kernel_rfl)) (seq_ok (plain_ok (by kernel_rfl)) (seq_ok (plain_ok (by kernel_rfl)) (seq_ok (plain_ok (by kernel_rfl)) (seq_ok (seq_ok (plain_ok (by kernel_rfl)) (block_ok (by kernel_rfl) (loop_ok (by kernel_rfl) k_impl_PagesFrom_7))) (plain_ok (by kernel_rfl))))))) r_impl_PagesFrom
/-! (*impl.Hart).space -/
abbrev P_impl_Hart_space : List PK := [.ptr Y23, .val Y25, .val Y22]
abbrev R_impl_Hart_space : List VK := [.g [.dat YI, .own 68 Y67]]
abbrev i_impl_Hart_space_5 : Shp := { slots := [(6, .s (.ptr 6 0)), (8, .s (.own 68 Y67)), (20, .s (.dat YI))], boxes := [(6, [.dat YI, .own 68 Y67])], rows := [] }
abbrev o_impl_Hart_space_5 : List (Ex × Shp) := [(.exit 0, { slots := [(6, .s (.ptr 6 0)), (8, .s (.own 68 Y67))], boxes := [(6, [.dat YI, .own 68 Y67])], rows := [] })]
def l_impl_Hart_space_5 (rec : i_impl_Hart_space_5.den → Option (denO o_impl_Hart_space_5)) (u5 : i_impl_Hart_space_5.den) : Option (denO o_impl_Hart_space_5) :=
  if (ltI u5.1.2.2.1 (8 : Int)) then
    if (u5.1.2.1.length + [(u5.1.2.2.1, ((7 : Int), ()))].length) * 16 ≤ 140737488355328 then
      let v3 := (u5.1.2.1 ++ [(u5.1.2.2.1, ((7 : Int), ()))])
      let v4 := (IntKind.i64.wrap (u5.1.2.2.1 + (1 : Int)))
      rec (((), (v3, (v4, ()))), ((u5.2.1.1, ()), ()))
    else none
  else
    some (.inl (((), (u5.1.2.1, ())), ((u5.2.1.1, ()), ())))
def L_impl_Hart_space_5 (x : i_impl_Hart_space_5.den) : Option (denO o_impl_Hart_space_5) := iterF l_impl_Hart_space_5 lots x
def F_impl_Hart_space (x : denP P_impl_Hart_space) : Option (denV R_impl_Hart_space × denQ P_impl_Hart_space) :=
  ((x.1.2.2.1)[((10 : Int)).toNat]?).bind fun y1 =>
  let v2 := (IntKind.i64.wrap (y1 - (1 : Int)))
  if (ltI v2 (0 : Int)) then
    (L_impl_Hart_space_5 (((), (([] : List (den Y67)), ((0 : Int), ()))), ((((0 : Int), (([] : List (den Y67)), ())), ()), ()))).bind fun z5 =>
    match z5 with
    | .inl x6 =>
      some ((((0 : Int), (x6.1.2.1, ())), ()), ())
    | .inr z5_ =>
      none
  else
    if 0 ≤ v2 then
      ((x.2.1)[(v2).toNat]?).bind fun y7 =>
      if (ltI y7.1 (0 : Int)) = false then
        if 0 ≤ v2 then
          ((x.2.1)[(v2).toNat]?).bind fun y8 =>
          let v9 := (iand .i64 y8.2.1 (1 : Int))
          if (v9 == (0 : Int)) = false then
            if (v2 == (7 : Int)) then
              some ((((7 : Int), (([] : List (den Y67)), ())), ()), ())
            else
              if 0 ≤ v2 then
                ((x.2.1)[(v2).toNat]?).bind fun y10 =>
                (F_impl_pageOf (x.2.2.1, y10.1, ())).bind fun r11 =>
                (F_impl_PagesFrom (r11.1.1, ())).bind fun r12 =>
                some ((r12.1.1, ()), ())
              else none
          else
            some ((((7 : Int), (([] : List (den Y67)), ())), ()), ())
        else none
      else
        some ((((7 : Int), (([] : List (den Y67)), ())), ()), ())
    else none
abbrev C_impl_Hart_space : Con := ⟨P_impl_Hart_space, R_impl_Hart_space, F_impl_Hart_space, false⟩
abbrev G_impl_Hart_space : Env := [(97, C_impl_pageOf), (177, C_impl_PagesFrom)]
theorem g_impl_Hart_space : EnvOk Tryz.prog G_impl_Hart_space := (env_cons s_impl_pageOf (env_cons s_impl_PagesFrom env_nil))
abbrev c_impl_Hart_space_5 : Cut := ⟨i_impl_Hart_space_5, o_impl_Hart_space_5, fun x => iterF l_impl_Hart_space_5 lots x⟩
theorem t_impl_Hart_space_5 (rec x) : run T G_impl_Hart_space [] (nav Tryz.f135 [1, 1, 0, 1, 0, 1, 0, 1, 0, 0]) (mk 59 i_impl_Hart_space_5 x) (loopK i_impl_Hart_space_5 o_impl_Hart_space_5 rec) = l_impl_Hart_space_5 rec x := by kernel_rfl
theorem k_impl_Hart_space_5 : CutOk Tryz.prog 59 (.loop (nav Tryz.f135 [1, 1, 0, 1, 0, 1, 0, 1, 0, 0])) c_impl_Hart_space_5 :=
  loop_cut (L := []) hT g_impl_Hart_space t_impl_Hart_space_5 (plain_ok (by kernel_rfl)) _
theorem r_impl_Hart_space (x) : runFn T G_impl_Hart_space [(5, c_impl_Hart_space_5)] Tryz.f135 P_impl_Hart_space R_impl_Hart_space x = F_impl_Hart_space x := by kernel_rfl
theorem s_impl_Hart_space : CallsOk Tryz.prog 135 C_impl_Hart_space :=
  fn_calls (L := [(5, c_impl_Hart_space_5)]) hT g_impl_Hart_space Tryz.f135 (by kernel_rfl) (by kernel_rfl) (by kernel_rfl) (seq_ok (plain_ok (by kernel_rfl)) (seq_ok (plain_ok (by kernel_rfl)) (seq_ok (seq_ok (plain_ok (by kernel_rfl)) (cond_ok (seq_ok (plain_ok (by kernel_rfl)) (seq_ok (seq_ok (plain_ok (by kernel_rfl)) (block_ok (by kernel_rfl) (loop_ok (by kernel_rfl) k_impl_Hart_space_5))) (plain_ok (by kernel_rfl)))) (plain_ok (by kernel_rfl)))) (plain_ok (by kernel_rfl))))) r_impl_Hart_space
/-! impl.hasPage -/
abbrev P_impl_hasPage : List PK := [.val YI]
abbrev R_impl_hasPage : List VK := [.s (.dat .bool)]
def F_impl_hasPage (x : denP P_impl_hasPage) : Option (denV R_impl_hasPage × denQ P_impl_hasPage) :=
  (F_impl_within (x.1, (0 : Int), (63 : Int), ())).bind fun r1 =>
  some ((r1.1.1, ()), ())
abbrev C_impl_hasPage : Con := ⟨P_impl_hasPage, R_impl_hasPage, F_impl_hasPage, false⟩
abbrev G_impl_hasPage : Env := [(67, C_impl_within)]
theorem g_impl_hasPage : EnvOk Tryz.prog G_impl_hasPage := (env_cons s_impl_within env_nil)
theorem r_impl_hasPage (x) : runFn T G_impl_hasPage [] Tryz.f178 P_impl_hasPage R_impl_hasPage x = F_impl_hasPage x := by kernel_rfl
theorem s_impl_hasPage : CallsOk Tryz.prog 178 C_impl_hasPage :=
  fn_calls (L := []) hT g_impl_hasPage Tryz.f178 (by kernel_rfl) (by kernel_rfl) (by kernel_rfl) (plain_ok (by kernel_rfl)) r_impl_hasPage
/-! impl.kindCode -/
abbrev P_impl_kindCode : List PK := [.val YI]
abbrev R_impl_kindCode : List VK := [.s (.dat YI)]
def F_impl_kindCode (x : denP P_impl_kindCode) : Option (denV R_impl_kindCode × denQ P_impl_kindCode) :=
  if (x.1 == (1 : Int)) then
    some (((7 : Int), ()), ())
  else
    if (x.1 == (2 : Int)) then
      some (((8 : Int), ()), ())
    else
      if (x.1 == (4 : Int)) then
        some (((9 : Int), ()), ())
      else
        some (((0 : Int), ()), ())
abbrev C_impl_kindCode : Con := ⟨P_impl_kindCode, R_impl_kindCode, F_impl_kindCode, false⟩
abbrev G_impl_kindCode : Env := []
theorem g_impl_kindCode : EnvOk Tryz.prog G_impl_kindCode := env_nil
theorem r_impl_kindCode (x) : runFn T G_impl_kindCode [] Tryz.f84 P_impl_kindCode R_impl_kindCode x = F_impl_kindCode x := by kernel_rfl
theorem s_impl_kindCode : CallsOk Tryz.prog 84 C_impl_kindCode :=
  fn_calls (L := []) hT g_impl_kindCode Tryz.f84 (by kernel_rfl) (by kernel_rfl) (by kernel_rfl) (plain_ok (by kernel_rfl)) r_impl_kindCode
/-! impl.walk -/
abbrev P_impl_walk : List PK := [.val Y25, .val YI, .val YI]
abbrev R_impl_walk : List VK := [.s (.dat Y67)]
def F_impl_walk (x : denP P_impl_walk) : Option (denV R_impl_walk × denQ P_impl_walk) :=
  (F_impl_hasPage (x.2.1, ())).bind fun r1 =>
  if (!r1.1.1) = false then
    let v2 := (IntKind.i64.wrap ((x.2.1).tdiv (8 : Int)))
    if 0 ≤ v2 then
      ((x.1)[(v2).toNat]?).bind fun y3 =>
      if (ltI y3.1 (0 : Int)) = false then
        let v4 := (IntKind.i64.wrap ((x.2.1).tdiv (8 : Int)))
        if 0 ≤ v4 then
          ((x.1)[(v4).toNat]?).bind fun y5 =>
          let v6 := (iand .i64 y5.2.1 x.2.2.1)
          if (v6 == (0 : Int)) then
            (F_impl_kindCode (x.2.2.1, ())).bind fun r7 =>
            some (((r7.1.1, ((0 : Int), ())), ()), ())
          else
            let v8 := (IntKind.i64.wrap ((x.2.1).tdiv (8 : Int)))
            if 0 ≤ v8 then
              ((x.1)[(v8).toNat]?).bind fun y9 =>
              let v10 := (IntKind.i64.wrap (y9.1 * (8 : Int)))
              let v11 := ((x.2.1).tmod (8 : Int))
              let v12 := (IntKind.i64.wrap (v10 + v11))
              some ((((0 : Int), (v12, ())), ()), ())
            else none
        else none
      else
        (F_impl_kindCode (x.2.2.1, ())).bind fun r13 =>
        some (((r13.1.1, ((0 : Int), ())), ()), ())
    else none
  else
    (F_impl_kindCode (x.2.2.1, ())).bind fun r14 =>
    some (((r14.1.1, ((0 : Int), ())), ()), ())
abbrev C_impl_walk : Con := ⟨P_impl_walk, R_impl_walk, F_impl_walk, false⟩
abbrev G_impl_walk : Env := [(84, C_impl_kindCode), (178, C_impl_hasPage)]
theorem g_impl_walk : EnvOk Tryz.prog G_impl_walk := (env_cons s_impl_kindCode (env_cons s_impl_hasPage env_nil))
theorem r_impl_walk (x) : runFn T G_impl_walk [] Tryz.f136 P_impl_walk R_impl_walk x = F_impl_walk x := by kernel_rfl
theorem s_impl_walk : CallsOk Tryz.prog 136 C_impl_walk :=
  fn_calls (L := []) hT g_impl_walk Tryz.f136 (by kernel_rfl) (by kernel_rfl) (by kernel_rfl) (plain_ok (by kernel_rfl)) r_impl_walk
/-! (*impl.Hart).place -/
abbrev P_impl_Hart_place : List PK := [.ptr Y23, .val Y25, .val Y22, .val YI, .val YI]
abbrev R_impl_Hart_place : List VK := [.s (.dat Y67)]
def F_impl_Hart_place (x : denP P_impl_Hart_place) : Option (denV R_impl_Hart_place × denQ P_impl_Hart_place) :=
  (F_impl_Hart_space (x.1, x.2.1, x.2.2.1, ())).bind fun r1 =>
  if (r1.1.1.1 != (0 : Int)) then
    some (((r1.1.1.1, ((0 : Int), ())), ()), ())
  else
    (F_impl_walk (r1.1.1.2.1, x.2.2.2.1, x.2.2.2.2.1, ())).bind fun r2 =>
    if (r2.1.1.1 != (0 : Int)) then
      some ((r2.1.1, ()), ())
    else
      let v3 := (IntKind.i64.wrap ((r2.1.1.2.1).tdiv (8 : Int)))
      if (v3 != (7 : Int)) then
        (F_impl_walk (x.2.1, r2.1.1.2.1, x.2.2.2.2.1, ())).bind fun r4 =>
        some ((r4.1.1, ()), ())
      else
        if (x.2.2.2.2.1 == (4 : Int)) then
          some ((((9 : Int), ((0 : Int), ())), ()), ())
        else
          let v5 := ((r2.1.1.2.1).tmod (8 : Int))
          let v6 := (IntKind.i64.wrap ((1000 : Int) + v5))
          some ((((0 : Int), (v6, ())), ()), ())
abbrev C_impl_Hart_place : Con := ⟨P_impl_Hart_place, R_impl_Hart_place, F_impl_Hart_place, false⟩
abbrev G_impl_Hart_place : Env := [(135, C_impl_Hart_space), (136, C_impl_walk)]
theorem g_impl_Hart_place : EnvOk Tryz.prog G_impl_Hart_place := (env_cons s_impl_Hart_space (env_cons s_impl_walk env_nil))
theorem r_impl_Hart_place (x) : runFn T G_impl_Hart_place [] Tryz.f85 P_impl_Hart_place R_impl_Hart_place x = F_impl_Hart_place x := by kernel_rfl
theorem s_impl_Hart_place : CallsOk Tryz.prog 85 C_impl_Hart_place :=
  fn_calls (L := []) hT g_impl_Hart_place Tryz.f85 (by kernel_rfl) (by kernel_rfl) (by kernel_rfl) (plain_ok (by kernel_rfl)) r_impl_Hart_place
/-! impl.InsFault -/
abbrev P_impl_InsFault : List PK := [.val Y72]
abbrev R_impl_InsFault : List VK := [.s (.dat YI)]
def F_impl_InsFault (x : denP P_impl_InsFault) : Option (denV R_impl_InsFault × denQ P_impl_InsFault) :=
  (F_impl_within (x.1.1, (1 : Int), (26 : Int), ())).bind fun r1 =>
  if (!r1.1.1) = false then
    (F_impl_within (x.1.2.1, (0 : Int), (15 : Int), ())).bind fun r2 =>
    if (!r2.1.1) = false then
      (F_impl_within (x.1.2.2.1, (0 : Int), (15 : Int), ())).bind fun r3 =>
      if (!r3.1.1) = false then
        (F_impl_within (x.1.2.2.2.1, (0 : Int), (65535 : Int), ())).bind fun r4 =>
        if (!r4.1.1) then
          some (((3 : Int), ()), ())
        else
          if (leI x.1.1 (11 : Int)) then
            if (ltI (15 : Int) x.1.2.2.2.1) then
              some (((1 : Int), ()), ())
            else
              some (((0 : Int), ()), ())
          else
            if (x.1.1 == (13 : Int)) then
              if (x.1.2.2.1 != (0 : Int)) then
                some (((1 : Int), ()), ())
              else
                some (((0 : Int), ()), ())
            else
              if (x.1.1 == (19 : Int)) then
                if (x.1.2.2.1 != (0 : Int)) then
                  some (((1 : Int), ()), ())
                else
                  some (((0 : Int), ()), ())
              else
                if (x.1.1 == (21 : Int)) then
                  if (ltI (10 : Int) x.1.2.2.2.1) = false then
                    if (x.1.2.2.1 != (0 : Int)) then
                      some (((1 : Int), ()), ())
                    else
                      some (((0 : Int), ()), ())
                  else
                    some (((1 : Int), ()), ())
                else
                  if (x.1.1 == (22 : Int)) then
                    if (ltI (10 : Int) x.1.2.2.2.1) = false then
                      if (x.1.2.1 != (0 : Int)) then
                        some (((1 : Int), ()), ())
                      else
                        some (((0 : Int), ()), ())
                    else
                      some (((1 : Int), ()), ())
                  else
                    if (leI (23 : Int) x.1.1) then
                      if (x.1.2.1 != (0 : Int)) = false then
                        if (x.1.2.2.1 != (0 : Int)) = false then
                          if (x.1.2.2.2.1 != (0 : Int)) then
                            some (((1 : Int), ()), ())
                          else
                            some (((0 : Int), ()), ())
                        else
                          some (((1 : Int), ()), ())
                      else
                        some (((1 : Int), ()), ())
                    else
                      some (((0 : Int), ()), ())
      else
        some (((3 : Int), ()), ())
    else
      some (((3 : Int), ()), ())
  else
    some (((3 : Int), ()), ())
abbrev C_impl_InsFault : Con := ⟨P_impl_InsFault, R_impl_InsFault, F_impl_InsFault, false⟩
abbrev G_impl_InsFault : Env := [(67, C_impl_within)]
theorem g_impl_InsFault : EnvOk Tryz.prog G_impl_InsFault := (env_cons s_impl_within env_nil)
theorem r_impl_InsFault (x) : runFn T G_impl_InsFault [] Tryz.f129 P_impl_InsFault R_impl_InsFault x = F_impl_InsFault x := by kernel_rfl
theorem s_impl_InsFault : CallsOk Tryz.prog 129 C_impl_InsFault :=
  fn_calls (L := []) hT g_impl_InsFault Tryz.f129 (by kernel_rfl) (by kernel_rfl) (by kernel_rfl) (plain_ok (by kernel_rfl)) r_impl_InsFault
/-! impl.DecodeIns -/
abbrev P_impl_DecodeIns : List PK := [.val YI]
abbrev R_impl_DecodeIns : List VK := [.s (.dat Y74)]
def F_impl_DecodeIns (x : denP P_impl_DecodeIns) : Option (denV R_impl_DecodeIns × denQ P_impl_DecodeIns) :=
  let v1 := ((x.1).fdiv (2 ^ 24))
  let v2 := ((x.1).fdiv (2 ^ 20))
  let v3 := (iand .i64 v2 (15 : Int))
  let v4 := ((x.1).fdiv (2 ^ 16))
  let v5 := (iand .i64 v4 (15 : Int))
  let v6 := (iand .i64 x.1 (65535 : Int))
  (F_impl_InsFault ((v1, (v3, (v5, (v6, ())))), ())).bind fun r7 =>
  if (r7.1.1 != (0 : Int)) then
    some ((((5 : Int), (((0 : Int), ((0 : Int), ((0 : Int), ((0 : Int), ())))), ())), ()), ())
  else
    some ((((0 : Int), ((v1, (v3, (v5, (v6, ())))), ())), ()), ())
abbrev C_impl_DecodeIns : Con := ⟨P_impl_DecodeIns, R_impl_DecodeIns, F_impl_DecodeIns, false⟩
abbrev G_impl_DecodeIns : Env := [(129, C_impl_InsFault)]
theorem g_impl_DecodeIns : EnvOk Tryz.prog G_impl_DecodeIns := (env_cons s_impl_InsFault env_nil)
theorem r_impl_DecodeIns (x) : runFn T G_impl_DecodeIns [] Tryz.f80 P_impl_DecodeIns R_impl_DecodeIns x = F_impl_DecodeIns x := by kernel_rfl
theorem s_impl_DecodeIns : CallsOk Tryz.prog 80 C_impl_DecodeIns :=
  fn_calls (L := []) hT g_impl_DecodeIns Tryz.f80 (by kernel_rfl) (by kernel_rfl) (by kernel_rfl) (plain_ok (by kernel_rfl)) r_impl_DecodeIns
/-! impl.WrapWord -/
abbrev P_impl_WrapWord : List PK := [.val YI]
abbrev R_impl_WrapWord : List VK := [.s (.dat YI)]
def F_impl_WrapWord (x : denP P_impl_WrapWord) : Option (denV R_impl_WrapWord × denQ P_impl_WrapWord) :=
  let v1 := (iand .i64 x.1 (4294967295 : Int))
  some ((v1, ()), ())
abbrev C_impl_WrapWord : Con := ⟨P_impl_WrapWord, R_impl_WrapWord, F_impl_WrapWord, false⟩
abbrev G_impl_WrapWord : Env := []
theorem g_impl_WrapWord : EnvOk Tryz.prog G_impl_WrapWord := env_nil
theorem r_impl_WrapWord (x) : runFn T G_impl_WrapWord [] Tryz.f86 P_impl_WrapWord R_impl_WrapWord x = F_impl_WrapWord x := by kernel_rfl
theorem s_impl_WrapWord : CallsOk Tryz.prog 86 C_impl_WrapWord :=
  fn_calls (L := []) hT g_impl_WrapWord Tryz.f86 (by kernel_rfl) (by kernel_rfl) (by kernel_rfl) (plain_ok (by kernel_rfl)) r_impl_WrapWord
/-! impl.AddWords -/
abbrev P_impl_AddWords : List PK := [.val YI, .val YI]
abbrev R_impl_AddWords : List VK := [.s (.dat YI)]
def F_impl_AddWords (x : denP P_impl_AddWords) : Option (denV R_impl_AddWords × denQ P_impl_AddWords) :=
  (F_impl_WrapWord (x.1, ())).bind fun r1 =>
  (F_impl_WrapWord (x.2.1, ())).bind fun r2 =>
  let v3 := (IntKind.i64.wrap (r1.1.1 + r2.1.1))
  (F_impl_WrapWord (v3, ())).bind fun r4 =>
  some ((r4.1.1, ()), ())
abbrev C_impl_AddWords : Con := ⟨P_impl_AddWords, R_impl_AddWords, F_impl_AddWords, false⟩
abbrev G_impl_AddWords : Env := [(86, C_impl_WrapWord)]
theorem g_impl_AddWords : EnvOk Tryz.prog G_impl_AddWords := (env_cons s_impl_WrapWord env_nil)
theorem r_impl_AddWords (x) : runFn T G_impl_AddWords [] Tryz.f49 P_impl_AddWords R_impl_AddWords x = F_impl_AddWords x := by kernel_rfl
theorem s_impl_AddWords : CallsOk Tryz.prog 49 C_impl_AddWords :=
  fn_calls (L := []) hT g_impl_AddWords Tryz.f49 (by kernel_rfl) (by kernel_rfl) (by kernel_rfl) (plain_ok (by kernel_rfl)) r_impl_AddWords
/-! impl.OffsetOf -/
abbrev P_impl_OffsetOf : List PK := [.val YI]
abbrev R_impl_OffsetOf : List VK := [.s (.dat YI)]
def F_impl_OffsetOf (x : denP P_impl_OffsetOf) : Option (denV R_impl_OffsetOf × denQ P_impl_OffsetOf) :=
  let v1 := (iand .i64 x.1 (65535 : Int))
  if (leI (32768 : Int) v1) then
    let v2 := (IntKind.i64.wrap (v1 - (65536 : Int)))
    some ((v2, ()), ())
  else
    some ((v1, ()), ())
abbrev C_impl_OffsetOf : Con := ⟨P_impl_OffsetOf, R_impl_OffsetOf, F_impl_OffsetOf, false⟩
abbrev G_impl_OffsetOf : Env := []
theorem g_impl_OffsetOf : EnvOk Tryz.prog G_impl_OffsetOf := env_nil
theorem r_impl_OffsetOf (x) : runFn T G_impl_OffsetOf [] Tryz.f50 P_impl_OffsetOf R_impl_OffsetOf x = F_impl_OffsetOf x := by kernel_rfl
theorem s_impl_OffsetOf : CallsOk Tryz.prog 50 C_impl_OffsetOf :=
  fn_calls (L := []) hT g_impl_OffsetOf Tryz.f50 (by kernel_rfl) (by kernel_rfl) (by kernel_rfl) (plain_ok (by kernel_rfl)) r_impl_OffsetOf
/-! (*impl.Hart).readDevice -/
abbrev P_impl_Hart_readDevice : List PK := [.box [.own 2 YI, .dat YI, .own 2 YI, .dat .bool, .dat .bool, .dat .bool, .dat YI, .own 2 YI, .own 2 YI] [.own 2 YI, .dat YI, .own 2 YI, .dat .bool, .dat .bool, .dat .bool, .dat YI, .own 2 YI, .own 2 YI], .val YI]
abbrev R_impl_Hart_readDevice : List VK := [.s (.dat YI)]
def F_impl_Hart_readDevice (x : denP P_impl_Hart_readDevice) : Option (denV R_impl_Hart_readDevice × denQ P_impl_Hart_readDevice) :=
  if (x.2.1 == (1 : Int)) then
    let v1 := ((x.1.2.2.2.2.2.2.2.1.length : Nat) : Int)
    if (ltI (0 : Int) v1) then
      if 0 ≤ (0 : Int) ∧ (0 : Int) < ((x.1.2.2.2.2.2.2.2.1.length : Nat) : Int) then
        ((x.1.2.2.2.2.2.2.2.1)[((0 : Int)).toNat]?).bind fun y2 =>
        if 0 ≤ (1 : Int) ∧ (1 : Int) ≤ ((x.1.2.2.2.2.2.2.2.1.length : Nat) : Int) ∧ ((x.1.2.2.2.2.2.2.2.1.length : Nat) : Int) ≤ ((x.1.2.2.2.2.2.2.2.1.length : Nat) : Int) then
          let v3 := ((x.1.2.2.2.2.2.2.2.1.drop ((1 : Int)).toNat).take ((((x.1.2.2.2.2.2.2.2.1.length : Nat) : Int)).toNat - ((1 : Int)).toNat))
          (F_slices_Clone_int64 (v3, ())).bind fun r4 =>
          some ((y2, ()), ((x.1.1, (x.1.2.1, (x.1.2.2.1, (x.1.2.2.2.1, (x.1.2.2.2.2.1, (x.1.2.2.2.2.2.1, (x.1.2.2.2.2.2.2.1, (r4.1.1, (x.1.2.2.2.2.2.2.2.2.1, ()))))))))), ()))
        else none
      else none
    else
      some (((0 : Int), ()), (x.1, ()))
  else
    if (x.2.1 == (2 : Int)) then
      some ((x.1.2.2.2.2.2.2.1, ()), (x.1, ()))
    else
      if (x.2.1 == (3 : Int)) then
        if 0 ≤ (9 : Int) ∧ (9 : Int) < ((x.1.2.2.1.length : Nat) : Int) then
          ((x.1.2.2.1)[((9 : Int)).toNat]?).bind fun y5 =>
          some ((y5, ()), (x.1, ()))
        else none
      else
        if (x.2.1 == (4 : Int)) then
          (F_impl_Hart_pending (x.1, ())).bind fun r6 =>
          some ((r6.1.1, ()), (x.1, ()))
        else
          if (x.2.1 == (6 : Int)) then
            let v7 := ((x.1.2.2.2.2.2.2.2.1.length : Nat) : Int)
            some ((v7, ()), (x.1, ()))
          else
            some (((0 : Int), ()), (x.1, ()))
abbrev C_impl_Hart_readDevice : Con := ⟨P_impl_Hart_readDevice, R_impl_Hart_readDevice, F_impl_Hart_readDevice, false⟩
abbrev G_impl_Hart_readDevice : Env := [(117, C_slices_Clone_int64), (133, C_impl_Hart_pending)]
theorem g_impl_Hart_readDevice : EnvOk Tryz.prog G_impl_Hart_readDevice := (env_cons s_slices_Clone_int64 (env_cons s_impl_Hart_pending env_nil))
theorem r_impl_Hart_readDevice (x) : runFn T G_impl_Hart_readDevice [] Tryz.f223 P_impl_Hart_readDevice R_impl_Hart_readDevice x = F_impl_Hart_readDevice x := by kernel_rfl
theorem s_impl_Hart_readDevice : CallsOk Tryz.prog 223 C_impl_Hart_readDevice :=
  fn_calls (L := []) hT g_impl_Hart_readDevice Tryz.f223 (by kernel_rfl) (by kernel_rfl) (by kernel_rfl) (plain_ok (by kernel_rfl)) r_impl_Hart_readDevice
/-! (*impl.core).load -/
abbrev P_impl_core_load : List PK := [.box [.own 2 YI, .dat YI, .own 2 YI, .dat .bool, .dat .bool, .dat .bool, .dat YI, .own 2 YI, .own 2 YI, .dat Y25, .own 2 YI, .dat YI, .dat YI] [.own 2 YI, .dat YI, .own 2 YI, .dat .bool, .dat .bool, .dat .bool, .dat YI, .own 2 YI, .own 2 YI, .dat Y25, .own 2 YI, .dat YI, .dat YI], .val YI]
abbrev R_impl_core_load : List VK := [.s (.dat YI), .s (.dat .bool)]
def F_impl_core_load (x : denP P_impl_core_load) : Option (denV R_impl_core_load × denQ P_impl_core_load) :=
  (F_impl_Hart_place ((x.1.1, (x.1.2.1, (x.1.2.2.1, (x.1.2.2.2.1, (x.1.2.2.2.2.1, (x.1.2.2.2.2.2.1, (x.1.2.2.2.2.2.2.1, (x.1.2.2.2.2.2.2.2.1, (x.1.2.2.2.2.2.2.2.2.1, ()))))))))), x.1.2.2.2.2.2.2.2.2.2.1, x.1.2.2.2.2.2.2.2.2.2.2.1, x.2.1, (1 : Int), ())).bind fun r1 =>
  if (r1.1.1.1 != (0 : Int)) then
    (F_impl_core_fail (x.1, (3 : Int), x.2.1, ())).bind fun r2 =>
    some (((0 : Int), false, ()), (r2.2.1, ()))
  else
    if (leI (1000 : Int) r1.1.1.2.1) then
      let v3 := (IntKind.i64.wrap (r1.1.1.2.1 - (1000 : Int)))
      (F_impl_Hart_readDevice ((x.1.1, (x.1.2.1, (x.1.2.2.1, (x.1.2.2.2.1, (x.1.2.2.2.2.1, (x.1.2.2.2.2.2.1, (x.1.2.2.2.2.2.2.1, (x.1.2.2.2.2.2.2.2.1, (x.1.2.2.2.2.2.2.2.2.1, ()))))))))), v3, ())).bind fun r4 =>
      some ((r4.1.1, true, ()), ((r4.2.1.1, (r4.2.1.2.1, (r4.2.1.2.2.1, (r4.2.1.2.2.2.1, (r4.2.1.2.2.2.2.1, (r4.2.1.2.2.2.2.2.1, (r4.2.1.2.2.2.2.2.2.1, (r4.2.1.2.2.2.2.2.2.2.1, (r4.2.1.2.2.2.2.2.2.2.2.1, (x.1.2.2.2.2.2.2.2.2.2.1, (x.1.2.2.2.2.2.2.2.2.2.2.1, (x.1.2.2.2.2.2.2.2.2.2.2.2.1, (x.1.2.2.2.2.2.2.2.2.2.2.2.2.1, ()))))))))))))), ()))
    else
      if 0 ≤ r1.1.1.2.1 ∧ r1.1.1.2.1 < ((x.1.2.2.2.2.2.2.2.2.2.2.1.length : Nat) : Int) then
        ((x.1.2.2.2.2.2.2.2.2.2.2.1)[(r1.1.1.2.1).toNat]?).bind fun y5 =>
        some ((y5, true, ()), (x.1, ()))
      else none
abbrev C_impl_core_load : Con := ⟨P_impl_core_load, R_impl_core_load, F_impl_core_load, false⟩
abbrev G_impl_core_load : Env := [(85, C_impl_Hart_place), (167, C_impl_core_fail), (223, C_impl_Hart_readDevice)]
theorem g_impl_core_load : EnvOk Tryz.prog G_impl_core_load := (env_cons s_impl_Hart_place (env_cons s_impl_core_fail (env_cons s_impl_Hart_readDevice env_nil)))
theorem r_impl_core_load (x) : runFn T G_impl_core_load [] Tryz.f200 P_impl_core_load R_impl_core_load x = F_impl_core_load x := by kernel_rfl
theorem s_impl_core_load : CallsOk Tryz.prog 200 C_impl_core_load :=
  fn_calls (L := []) hT g_impl_core_load Tryz.f200 (by kernel_rfl) (by kernel_rfl) (by kernel_rfl) (plain_ok (by kernel_rfl)) r_impl_core_load
/-! (*impl.Hart).set -/
abbrev P_impl_Hart_set : List PK := [.box [.own 2 YI, .dat YI, .own 2 YI, .dat .bool, .dat .bool, .dat .bool, .dat YI, .own 2 YI, .own 2 YI] [.own 2 YI, .dat YI, .own 2 YI, .dat .bool, .dat .bool, .dat .bool, .dat YI, .own 2 YI, .own 2 YI], .val YI, .val YI]
abbrev R_impl_Hart_set : List VK := []
def F_impl_Hart_set (x : denP P_impl_Hart_set) : Option (denV R_impl_Hart_set × denQ P_impl_Hart_set) :=
  (F_impl_WrapWord (x.2.2.1, ())).bind fun r1 =>
  if (x.2.1 == (0 : Int)) then
    let v2 := ((r1.1.1).tmod (4 : Int))
    if 0 ≤ x.2.1 ∧ x.2.1 < ((x.1.2.2.1.length : Nat) : Int) then
      ((x.1.2.2.1)[(x.2.1).toNat]?).bind fun y3 =>
      let v4 := (x.1.2.2.1.set (x.2.1).toNat v2)
      some ((), ((x.1.1, (x.1.2.1, (v4, (x.1.2.2.2.1, (x.1.2.2.2.2.1, (x.1.2.2.2.2.2.1, (x.1.2.2.2.2.2.2.1, (x.1.2.2.2.2.2.2.2.1, (x.1.2.2.2.2.2.2.2.2.1, ()))))))))), ()))
    else none
  else
    if (x.2.1 == (7 : Int)) then
      let v5 := ((r1.1.1).tmod (8 : Int))
      if 0 ≤ x.2.1 ∧ x.2.1 < ((x.1.2.2.1.length : Nat) : Int) then
        ((x.1.2.2.1)[(x.2.1).toNat]?).bind fun y6 =>
        let v7 := (x.1.2.2.1.set (x.2.1).toNat v5)
        some ((), ((x.1.1, (x.1.2.1, (v7, (x.1.2.2.2.1, (x.1.2.2.2.2.1, (x.1.2.2.2.2.2.1, (x.1.2.2.2.2.2.2.1, (x.1.2.2.2.2.2.2.2.1, (x.1.2.2.2.2.2.2.2.2.1, ()))))))))), ()))
      else none
    else
      if (x.2.1 == (10 : Int)) then
        if 0 ≤ x.2.1 ∧ x.2.1 < ((x.1.2.2.1.length : Nat) : Int) then
          ((x.1.2.2.1)[(x.2.1).toNat]?).bind fun y8 =>
          let v9 := (x.1.2.2.1.set (x.2.1).toNat (0 : Int))
          if (leI r1.1.1 (8 : Int)) then
            if 0 ≤ x.2.1 ∧ x.2.1 < ((v9.length : Nat) : Int) then
              ((v9)[(x.2.1).toNat]?).bind fun y10 =>
              let v11 := (v9.set (x.2.1).toNat r1.1.1)
              some ((), ((x.1.1, (x.1.2.1, (v11, (x.1.2.2.2.1, (x.1.2.2.2.2.1, (x.1.2.2.2.2.2.1, (x.1.2.2.2.2.2.2.1, (x.1.2.2.2.2.2.2.2.1, (x.1.2.2.2.2.2.2.2.2.1, ()))))))))), ()))
            else none
          else
            some ((), ((x.1.1, (x.1.2.1, (v9, (x.1.2.2.2.1, (x.1.2.2.2.2.1, (x.1.2.2.2.2.2.1, (x.1.2.2.2.2.2.2.1, (x.1.2.2.2.2.2.2.2.1, (x.1.2.2.2.2.2.2.2.2.1, ()))))))))), ()))
        else none
      else
        if (x.2.1 == (6 : Int)) then
          let v12 := ((r1.1.1).tmod (4 : Int))
          if (leI (2 : Int) v12) then
            some ((), ((x.1.1, (x.1.2.1, (x.1.2.2.1, (x.1.2.2.2.1, (x.1.2.2.2.2.1, (false, (x.1.2.2.2.2.2.2.1, (x.1.2.2.2.2.2.2.2.1, (x.1.2.2.2.2.2.2.2.2.1, ()))))))))), ()))
          else
            some ((), (x.1, ()))
        else
          if (x.2.1 == (8 : Int)) then
            some ((), (x.1, ()))
          else
            if 0 ≤ x.2.1 ∧ x.2.1 < ((x.1.2.2.1.length : Nat) : Int) then
              ((x.1.2.2.1)[(x.2.1).toNat]?).bind fun y13 =>
              let v14 := (x.1.2.2.1.set (x.2.1).toNat r1.1.1)
              some ((), ((x.1.1, (x.1.2.1, (v14, (x.1.2.2.2.1, (x.1.2.2.2.2.1, (x.1.2.2.2.2.2.1, (x.1.2.2.2.2.2.2.1, (x.1.2.2.2.2.2.2.2.1, (x.1.2.2.2.2.2.2.2.2.1, ()))))))))), ()))
            else none
abbrev C_impl_Hart_set : Con := ⟨P_impl_Hart_set, R_impl_Hart_set, F_impl_Hart_set, false⟩
abbrev G_impl_Hart_set : Env := [(86, C_impl_WrapWord)]
theorem g_impl_Hart_set : EnvOk Tryz.prog G_impl_Hart_set := (env_cons s_impl_WrapWord env_nil)
theorem r_impl_Hart_set (x) : runFn T G_impl_Hart_set [] Tryz.f204 P_impl_Hart_set R_impl_Hart_set x = F_impl_Hart_set x := by kernel_rfl
theorem s_impl_Hart_set : CallsOk Tryz.prog 204 C_impl_Hart_set :=
  fn_calls (L := []) hT g_impl_Hart_set Tryz.f204 (by kernel_rfl) (by kernel_rfl) (by kernel_rfl) (plain_ok (by kernel_rfl)) r_impl_Hart_set
/-! (*impl.Hart).writeDevice -/
abbrev P_impl_Hart_writeDevice : List PK := [.box [.own 2 YI, .dat YI, .own 2 YI, .dat .bool, .dat .bool, .dat .bool, .dat YI, .own 2 YI, .own 2 YI] [.own 2 YI, .dat YI, .own 2 YI, .dat .bool, .dat .bool, .dat .bool, .dat YI, .own 2 YI, .own 2 YI], .val YI, .val YI]
abbrev R_impl_Hart_writeDevice : List VK := [.s (.dat YI)]
def F_impl_Hart_writeDevice (x : denP P_impl_Hart_writeDevice) : Option (denV R_impl_Hart_writeDevice × denQ P_impl_Hart_writeDevice) :=
  (F_impl_WrapWord (x.2.2.1, ())).bind fun r1 =>
  if (x.2.1 == (0 : Int)) then
    let v2 := ((x.1.2.2.2.2.2.2.2.2.1.length : Nat) : Int)
    if (ltI v2 (40 : Int)) then
      (F_slices_Clone_int64 (x.1.2.2.2.2.2.2.2.2.1, ())).bind fun r3 =>
      if (r3.1.1.length + [r1.1.1].length) * 8 ≤ 140737488355328 then
        let v4 := (r3.1.1 ++ [r1.1.1])
        some (((-1 : Int), ()), ((x.1.1, (x.1.2.1, (x.1.2.2.1, (x.1.2.2.2.1, (x.1.2.2.2.2.1, (x.1.2.2.2.2.2.1, (x.1.2.2.2.2.2.2.1, (x.1.2.2.2.2.2.2.2.1, (v4, ()))))))))), ()))
      else none
    else
      some (((-1 : Int), ()), (x.1, ()))
  else
    if (x.2.1 == (3 : Int)) then
      (F_impl_Hart_set (x.1, (9 : Int), r1.1.1, ())).bind fun r5 =>
      some (((-1 : Int), ()), (r5.2.1, ()))
    else
      if (x.2.1 == (4 : Int)) then
        (F_impl_Hart_set (x.1, (6 : Int), r1.1.1, ())).bind fun r6 =>
        some (((-1 : Int), ()), (r6.2.1, ()))
      else
        if (x.2.1 == (5 : Int)) then
          some ((r1.1.1, ()), (x.1, ()))
        else
          some (((-1 : Int), ()), (x.1, ()))
abbrev C_impl_Hart_writeDevice : Con := ⟨P_impl_Hart_writeDevice, R_impl_Hart_writeDevice, F_impl_Hart_writeDevice, false⟩
abbrev G_impl_Hart_writeDevice : Env := [(86, C_impl_WrapWord), (117, C_slices_Clone_int64), (204, C_impl_Hart_set)]
theorem g_impl_Hart_writeDevice : EnvOk Tryz.prog G_impl_Hart_writeDevice := (env_cons s_impl_WrapWord (env_cons s_slices_Clone_int64 (env_cons s_impl_Hart_set env_nil)))
theorem r_impl_Hart_writeDevice (x) : runFn T G_impl_Hart_writeDevice [] Tryz.f224 P_impl_Hart_writeDevice R_impl_Hart_writeDevice x = F_impl_Hart_writeDevice x := by kernel_rfl
theorem s_impl_Hart_writeDevice : CallsOk Tryz.prog 224 C_impl_Hart_writeDevice :=
  fn_calls (L := []) hT g_impl_Hart_writeDevice Tryz.f224 (by kernel_rfl) (by kernel_rfl) (by kernel_rfl) (plain_ok (by kernel_rfl)) r_impl_Hart_writeDevice
/-! (*impl.core).store -/
abbrev P_impl_core_store : List PK := [.box [.own 2 YI, .dat YI, .own 2 YI, .dat .bool, .dat .bool, .dat .bool, .dat YI, .own 2 YI, .own 2 YI, .dat Y25, .own 2 YI, .dat YI, .dat YI] [.own 2 YI, .dat YI, .own 2 YI, .dat .bool, .dat .bool, .dat .bool, .dat YI, .own 2 YI, .own 2 YI, .dat Y25, .own 2 YI, .dat YI, .dat YI], .val YI, .val YI]
abbrev R_impl_core_store : List VK := [.s (.dat .bool)]
def F_impl_core_store (x : denP P_impl_core_store) : Option (denV R_impl_core_store × denQ P_impl_core_store) :=
  (F_impl_Hart_place ((x.1.1, (x.1.2.1, (x.1.2.2.1, (x.1.2.2.2.1, (x.1.2.2.2.2.1, (x.1.2.2.2.2.2.1, (x.1.2.2.2.2.2.2.1, (x.1.2.2.2.2.2.2.2.1, (x.1.2.2.2.2.2.2.2.2.1, ()))))))))), x.1.2.2.2.2.2.2.2.2.2.1, x.1.2.2.2.2.2.2.2.2.2.2.1, x.2.1, (2 : Int), ())).bind fun r1 =>
  if (r1.1.1.1 != (0 : Int)) then
    (F_impl_core_fail (x.1, (4 : Int), x.2.1, ())).bind fun r2 =>
    some ((false, ()), (r2.2.1, ()))
  else
    if (leI (1000 : Int) r1.1.1.2.1) then
      let v3 := (IntKind.i64.wrap (r1.1.1.2.1 - (1000 : Int)))
      (F_impl_Hart_writeDevice ((x.1.1, (x.1.2.1, (x.1.2.2.1, (x.1.2.2.2.1, (x.1.2.2.2.2.1, (x.1.2.2.2.2.2.1, (x.1.2.2.2.2.2.2.1, (x.1.2.2.2.2.2.2.2.1, (x.1.2.2.2.2.2.2.2.2.1, ()))))))))), v3, x.2.2.1, ())).bind fun r4 =>
      some ((true, ()), ((r4.2.1.1, (r4.2.1.2.1, (r4.2.1.2.2.1, (r4.2.1.2.2.2.1, (r4.2.1.2.2.2.2.1, (r4.2.1.2.2.2.2.2.1, (r4.2.1.2.2.2.2.2.2.1, (r4.2.1.2.2.2.2.2.2.2.1, (r4.2.1.2.2.2.2.2.2.2.2.1, (x.1.2.2.2.2.2.2.2.2.2.1, (x.1.2.2.2.2.2.2.2.2.2.2.1, (x.1.2.2.2.2.2.2.2.2.2.2.2.1, (r4.1.1, ()))))))))))))), ()))
    else
      if 0 ≤ r1.1.1.2.1 ∧ r1.1.1.2.1 < ((x.1.2.2.2.2.2.2.2.2.2.2.1.length : Nat) : Int) then
        ((x.1.2.2.2.2.2.2.2.2.2.2.1)[(r1.1.1.2.1).toNat]?).bind fun y5 =>
        let v6 := (x.1.2.2.2.2.2.2.2.2.2.2.1.set (r1.1.1.2.1).toNat x.2.2.1)
        some ((true, ()), ((x.1.1, (x.1.2.1, (x.1.2.2.1, (x.1.2.2.2.1, (x.1.2.2.2.2.1, (x.1.2.2.2.2.2.1, (x.1.2.2.2.2.2.2.1, (x.1.2.2.2.2.2.2.2.1, (x.1.2.2.2.2.2.2.2.2.1, (x.1.2.2.2.2.2.2.2.2.2.1, (v6, (x.1.2.2.2.2.2.2.2.2.2.2.2.1, (x.1.2.2.2.2.2.2.2.2.2.2.2.2.1, ()))))))))))))), ()))
      else none
abbrev C_impl_core_store : Con := ⟨P_impl_core_store, R_impl_core_store, F_impl_core_store, false⟩
abbrev G_impl_core_store : Env := [(85, C_impl_Hart_place), (167, C_impl_core_fail), (224, C_impl_Hart_writeDevice)]
theorem g_impl_core_store : EnvOk Tryz.prog G_impl_core_store := (env_cons s_impl_Hart_place (env_cons s_impl_core_fail (env_cons s_impl_Hart_writeDevice env_nil)))
theorem r_impl_core_store (x) : runFn T G_impl_core_store [] Tryz.f201 P_impl_core_store R_impl_core_store x = F_impl_core_store x := by kernel_rfl
theorem s_impl_core_store : CallsOk Tryz.prog 201 C_impl_core_store :=
  fn_calls (L := []) hT g_impl_core_store Tryz.f201 (by kernel_rfl) (by kernel_rfl) (by kernel_rfl) (plain_ok (by kernel_rfl)) r_impl_core_store
/-! impl.SignedOf -/
abbrev P_impl_SignedOf : List PK := [.val YI]
abbrev R_impl_SignedOf : List VK := [.s (.dat YI)]
def F_impl_SignedOf (x : denP P_impl_SignedOf) : Option (denV R_impl_SignedOf × denQ P_impl_SignedOf) :=
  (F_impl_WrapWord (x.1, ())).bind fun r1 =>
  if (ltI r1.1.1 (2147483648 : Int)) then
    some ((r1.1.1, ()), ())
  else
    let v2 := (IntKind.i64.wrap (r1.1.1 - (4294967295 : Int)))
    let v3 := (IntKind.i64.wrap (v2 - (1 : Int)))
    some ((v3, ()), ())
abbrev C_impl_SignedOf : Con := ⟨P_impl_SignedOf, R_impl_SignedOf, F_impl_SignedOf, false⟩
abbrev G_impl_SignedOf : Env := [(86, C_impl_WrapWord)]
theorem g_impl_SignedOf : EnvOk Tryz.prog G_impl_SignedOf := (env_cons s_impl_WrapWord env_nil)
theorem r_impl_SignedOf (x) : runFn T G_impl_SignedOf [] Tryz.f202 P_impl_SignedOf R_impl_SignedOf x = F_impl_SignedOf x := by kernel_rfl
theorem s_impl_SignedOf : CallsOk Tryz.prog 202 C_impl_SignedOf :=
  fn_calls (L := []) hT g_impl_SignedOf Tryz.f202 (by kernel_rfl) (by kernel_rfl) (by kernel_rfl) (plain_ok (by kernel_rfl)) r_impl_SignedOf
/-! (*impl.Hart).get -/
abbrev P_impl_Hart_get : List PK := [.ptr Y23, .val YI]
abbrev R_impl_Hart_get : List VK := [.s (.dat YI)]
def F_impl_Hart_get (x : denP P_impl_Hart_get) : Option (denV R_impl_Hart_get × denQ P_impl_Hart_get) :=
  if (x.2.1 == (6 : Int)) then
    (F_impl_Hart_pending (x.1, ())).bind fun r1 =>
    some ((r1.1.1, ()), ())
  else
    if (x.2.1 == (8 : Int)) then
      some ((x.1.2.2.2.2.2.2.1, ()), ())
    else
      if 0 ≤ x.2.1 then
        ((x.1.2.2.1)[(x.2.1).toNat]?).bind fun y2 =>
        some ((y2, ()), ())
      else none
abbrev C_impl_Hart_get : Con := ⟨P_impl_Hart_get, R_impl_Hart_get, F_impl_Hart_get, false⟩
abbrev G_impl_Hart_get : Env := [(133, C_impl_Hart_pending)]
theorem g_impl_Hart_get : EnvOk Tryz.prog G_impl_Hart_get := (env_cons s_impl_Hart_pending env_nil)
theorem r_impl_Hart_get (x) : runFn T G_impl_Hart_get [] Tryz.f203 P_impl_Hart_get R_impl_Hart_get x = F_impl_Hart_get x := by kernel_rfl
theorem s_impl_Hart_get : CallsOk Tryz.prog 203 C_impl_Hart_get :=
  fn_calls (L := []) hT g_impl_Hart_get Tryz.f203 (by kernel_rfl) (by kernel_rfl) (by kernel_rfl) (plain_ok (by kernel_rfl)) r_impl_Hart_get
/-! (*impl.Hart).back -/
abbrev P_impl_Hart_back : List PK := [.box [.own 2 YI, .dat YI, .own 2 YI, .dat .bool, .dat .bool, .dat .bool, .dat YI, .own 2 YI, .own 2 YI] [.own 2 YI, .dat YI, .own 2 YI, .dat .bool, .dat .bool, .dat .bool, .dat YI, .own 2 YI, .own 2 YI]]
abbrev R_impl_Hart_back : List VK := []
def F_impl_Hart_back (x : denP P_impl_Hart_back) : Option (denV R_impl_Hart_back × denQ P_impl_Hart_back) :=
  if 0 ≤ (2 : Int) ∧ (2 : Int) < ((x.1.2.2.1.length : Nat) : Int) then
    ((x.1.2.2.1)[((2 : Int)).toNat]?).bind fun y1 =>
    if 0 ≤ (0 : Int) ∧ (0 : Int) < ((x.1.2.2.1.length : Nat) : Int) then
      ((x.1.2.2.1)[((0 : Int)).toNat]?).bind fun y2 =>
      let v3 := (IntKind.i64.wrap ((y2).tdiv (2 : Int)))
      let v4 := (IntKind.i64.wrap ((2 : Int) + v3))
      if 0 ≤ (0 : Int) ∧ (0 : Int) < ((x.1.2.2.1.length : Nat) : Int) then
        ((x.1.2.2.1)[((0 : Int)).toNat]?).bind fun y5 =>
        let v6 := (x.1.2.2.1.set ((0 : Int)).toNat v4)
        some ((), ((x.1.1, (y1, (v6, (x.1.2.2.2.1, (x.1.2.2.2.2.1, (x.1.2.2.2.2.2.1, (x.1.2.2.2.2.2.2.1, (x.1.2.2.2.2.2.2.2.1, (x.1.2.2.2.2.2.2.2.2.1, ()))))))))), ()))
      else none
    else none
  else none
abbrev C_impl_Hart_back : Con := ⟨P_impl_Hart_back, R_impl_Hart_back, F_impl_Hart_back, false⟩
abbrev G_impl_Hart_back : Env := []
theorem g_impl_Hart_back : EnvOk Tryz.prog G_impl_Hart_back := env_nil
theorem r_impl_Hart_back (x) : runFn T G_impl_Hart_back [] Tryz.f205 P_impl_Hart_back R_impl_Hart_back x = F_impl_Hart_back x := by kernel_rfl
theorem s_impl_Hart_back : CallsOk Tryz.prog 205 C_impl_Hart_back :=
  fn_calls (L := []) hT g_impl_Hart_back Tryz.f205 (by kernel_rfl) (by kernel_rfl) (by kernel_rfl) (plain_ok (by kernel_rfl)) r_impl_Hart_back
/-! impl.MulWords -/
abbrev P_impl_MulWords : List PK := [.val YI, .val YI]
abbrev R_impl_MulWords : List VK := [.s (.dat YI)]
def F_impl_MulWords (x : denP P_impl_MulWords) : Option (denV R_impl_MulWords × denQ P_impl_MulWords) :=
  let v1 := (IntKind.u32.wrap x.1)
  let v2 := (IntKind.u32.wrap x.2.1)
  let v3 := (IntKind.u32.wrap (v1 * v2))
  let v4 := (IntKind.i64.wrap v3)
  some ((v4, ()), ())
abbrev C_impl_MulWords : Con := ⟨P_impl_MulWords, R_impl_MulWords, F_impl_MulWords, false⟩
abbrev G_impl_MulWords : Env := []
theorem g_impl_MulWords : EnvOk Tryz.prog G_impl_MulWords := env_nil
theorem r_impl_MulWords (x) : runFn T G_impl_MulWords [] Tryz.f225 P_impl_MulWords R_impl_MulWords x = F_impl_MulWords x := by kernel_rfl
theorem s_impl_MulWords : CallsOk Tryz.prog 225 C_impl_MulWords :=
  fn_calls (L := []) hT g_impl_MulWords Tryz.f225 (by kernel_rfl) (by kernel_rfl) (by kernel_rfl) (plain_ok (by kernel_rfl)) r_impl_MulWords
/-! impl.DivWords -/
abbrev P_impl_DivWords : List PK := [.val YI, .val YI]
abbrev R_impl_DivWords : List VK := [.s (.dat YI)]
def F_impl_DivWords (x : denP P_impl_DivWords) : Option (denV R_impl_DivWords × denQ P_impl_DivWords) :=
  (F_impl_SignedOf (x.1, ())).bind fun r1 =>
  (F_impl_SignedOf (x.2.1, ())).bind fun r2 =>
  if (r2.1.1 == (0 : Int)) then
    some (((4294967295 : Int), ()), ())
  else
    if r2.1.1 = 0 then none else
    let v3 := (IntKind.i64.wrap ((r1.1.1).tdiv r2.1.1))
    (F_impl_WrapWord (v3, ())).bind fun r4 =>
    some ((r4.1.1, ()), ())
abbrev C_impl_DivWords : Con := ⟨P_impl_DivWords, R_impl_DivWords, F_impl_DivWords, false⟩
abbrev G_impl_DivWords : Env := [(86, C_impl_WrapWord), (202, C_impl_SignedOf)]
theorem g_impl_DivWords : EnvOk Tryz.prog G_impl_DivWords := (env_cons s_impl_WrapWord (env_cons s_impl_SignedOf env_nil))
theorem r_impl_DivWords (x) : runFn T G_impl_DivWords [] Tryz.f226 P_impl_DivWords R_impl_DivWords x = F_impl_DivWords x := by kernel_rfl
theorem s_impl_DivWords : CallsOk Tryz.prog 226 C_impl_DivWords :=
  fn_calls (L := []) hT g_impl_DivWords Tryz.f226 (by kernel_rfl) (by kernel_rfl) (by kernel_rfl) (plain_ok (by kernel_rfl)) r_impl_DivWords
/-! impl.RemWords -/
abbrev P_impl_RemWords : List PK := [.val YI, .val YI]
abbrev R_impl_RemWords : List VK := [.s (.dat YI)]
def F_impl_RemWords (x : denP P_impl_RemWords) : Option (denV R_impl_RemWords × denQ P_impl_RemWords) :=
  (F_impl_SignedOf (x.1, ())).bind fun r1 =>
  (F_impl_SignedOf (x.2.1, ())).bind fun r2 =>
  if (r2.1.1 == (0 : Int)) then
    (F_impl_WrapWord (x.1, ())).bind fun r3 =>
    some ((r3.1.1, ()), ())
  else
    if r2.1.1 = 0 then none else
    let v4 := ((r1.1.1).tmod r2.1.1)
    (F_impl_WrapWord (v4, ())).bind fun r5 =>
    some ((r5.1.1, ()), ())
abbrev C_impl_RemWords : Con := ⟨P_impl_RemWords, R_impl_RemWords, F_impl_RemWords, false⟩
abbrev G_impl_RemWords : Env := [(86, C_impl_WrapWord), (202, C_impl_SignedOf)]
theorem g_impl_RemWords : EnvOk Tryz.prog G_impl_RemWords := (env_cons s_impl_WrapWord (env_cons s_impl_SignedOf env_nil))
theorem r_impl_RemWords (x) : runFn T G_impl_RemWords [] Tryz.f227 P_impl_RemWords R_impl_RemWords x = F_impl_RemWords x := by kernel_rfl
theorem s_impl_RemWords : CallsOk Tryz.prog 227 C_impl_RemWords :=
  fn_calls (L := []) hT g_impl_RemWords Tryz.f227 (by kernel_rfl) (by kernel_rfl) (by kernel_rfl) (plain_ok (by kernel_rfl)) r_impl_RemWords
/-! impl.BitWords -/
abbrev P_impl_BitWords : List PK := [.val YI, .val YI, .val YI]
abbrev R_impl_BitWords : List VK := [.s (.dat Y67)]
def F_impl_BitWords (x : denP P_impl_BitWords) : Option (denV R_impl_BitWords × denQ P_impl_BitWords) :=
  (F_impl_WrapWord (x.2.1, ())).bind fun r1 =>
  (F_impl_WrapWord (x.2.2.1, ())).bind fun r2 =>
  if (x.1 == (1 : Int)) then
    let v3 := (iand .i64 r1.1.1 r2.1.1)
    some ((((0 : Int), (v3, ())), ()), ())
  else
    if (x.1 == (2 : Int)) then
      let v4 := (ior .i64 r1.1.1 r2.1.1)
      some ((((0 : Int), (v4, ())), ()), ())
    else
      if (x.1 == (3 : Int)) then
        let v5 := (ixor .i64 r1.1.1 r2.1.1)
        some ((((0 : Int), (v5, ())), ()), ())
      else
        some ((((3 : Int), ((0 : Int), ())), ()), ())
abbrev C_impl_BitWords : Con := ⟨P_impl_BitWords, R_impl_BitWords, F_impl_BitWords, false⟩
abbrev G_impl_BitWords : Env := [(86, C_impl_WrapWord)]
theorem g_impl_BitWords : EnvOk Tryz.prog G_impl_BitWords := (env_cons s_impl_WrapWord env_nil)
theorem r_impl_BitWords (x) : runFn T G_impl_BitWords [] Tryz.f228 P_impl_BitWords R_impl_BitWords x = F_impl_BitWords x := by kernel_rfl
theorem s_impl_BitWords : CallsOk Tryz.prog 228 C_impl_BitWords :=
  fn_calls (L := []) hT g_impl_BitWords Tryz.f228 (by kernel_rfl) (by kernel_rfl) (by kernel_rfl) (plain_ok (by kernel_rfl)) r_impl_BitWords
/-! impl.ShiftWord -/
abbrev P_impl_ShiftWord : List PK := [.val YI, .val YI, .val .bool]
abbrev R_impl_ShiftWord : List VK := [.s (.dat YI)]
def F_impl_ShiftWord (x : denP P_impl_ShiftWord) : Option (denV R_impl_ShiftWord × denQ P_impl_ShiftWord) :=
  (F_impl_WrapWord (x.1, ())).bind fun r1 =>
  (F_impl_WrapWord (x.2.1, ())).bind fun r2 =>
  let v3 := ((r2.1.1).tmod (32 : Int))
  if x.2.2.1 then
    if v3 < 0 then none else
    let v4 := (IntKind.i64.wrap (r1.1.1 * 2 ^ (min (v3).toNat 64)))
    (F_impl_WrapWord (v4, ())).bind fun r5 =>
    some ((r5.1.1, ()), ())
  else
    if v3 < 0 then none else
    let v6 := ((r1.1.1).fdiv (2 ^ (min (v3).toNat 64)))
    some ((v6, ()), ())
abbrev C_impl_ShiftWord : Con := ⟨P_impl_ShiftWord, R_impl_ShiftWord, F_impl_ShiftWord, false⟩
abbrev G_impl_ShiftWord : Env := [(86, C_impl_WrapWord)]
theorem g_impl_ShiftWord : EnvOk Tryz.prog G_impl_ShiftWord := (env_cons s_impl_WrapWord env_nil)
theorem r_impl_ShiftWord (x) : runFn T G_impl_ShiftWord [] Tryz.f229 P_impl_ShiftWord R_impl_ShiftWord x = F_impl_ShiftWord x := by kernel_rfl
theorem s_impl_ShiftWord : CallsOk Tryz.prog 229 C_impl_ShiftWord :=
  fn_calls (L := []) hT g_impl_ShiftWord Tryz.f229 (by kernel_rfl) (by kernel_rfl) (by kernel_rfl) (plain_ok (by kernel_rfl)) r_impl_ShiftWord
/-! impl.AluOf -/
abbrev P_impl_AluOf : List PK := [.val YI, .val YI, .val YI]
abbrev R_impl_AluOf : List VK := [.s (.dat Y67)]
def F_impl_AluOf (x : denP P_impl_AluOf) : Option (denV R_impl_AluOf × denQ P_impl_AluOf) :=
  (F_impl_WrapWord (x.2.1, ())).bind fun r1 =>
  (F_impl_WrapWord (x.2.2.1, ())).bind fun r2 =>
  if (x.1 == (1 : Int)) then
    (F_impl_AddWords (r1.1.1, r2.1.1, ())).bind fun r3 =>
    some ((((0 : Int), (r3.1.1, ())), ()), ())
  else
    if (x.1 == (2 : Int)) then
      let v4 := (IntKind.i64.wrap (r1.1.1 - r2.1.1))
      (F_impl_WrapWord (v4, ())).bind fun r5 =>
      some ((((0 : Int), (r5.1.1, ())), ()), ())
    else
      if (x.1 == (3 : Int)) then
        (F_impl_MulWords (r1.1.1, r2.1.1, ())).bind fun r6 =>
        some ((((0 : Int), (r6.1.1, ())), ()), ())
      else
        if (x.1 == (4 : Int)) then
          (F_impl_DivWords (r1.1.1, r2.1.1, ())).bind fun r7 =>
          some ((((0 : Int), (r7.1.1, ())), ()), ())
        else
          if (x.1 == (5 : Int)) then
            (F_impl_RemWords (r1.1.1, r2.1.1, ())).bind fun r8 =>
            some ((((0 : Int), (r8.1.1, ())), ()), ())
          else
            if (x.1 == (6 : Int)) then
              let v9 := (IntKind.i64.wrap (x.1 - (6 : Int)))
              let v10 := (IntKind.i64.wrap (v9 + (1 : Int)))
              (F_impl_BitWords (v10, r1.1.1, r2.1.1, ())).bind fun r11 =>
              some ((r11.1.1, ()), ())
            else
              if (x.1 == (7 : Int)) then
                let v12 := (IntKind.i64.wrap (x.1 - (6 : Int)))
                let v13 := (IntKind.i64.wrap (v12 + (1 : Int)))
                (F_impl_BitWords (v13, r1.1.1, r2.1.1, ())).bind fun r14 =>
                some ((r14.1.1, ()), ())
              else
                if (x.1 == (8 : Int)) then
                  let v15 := (IntKind.i64.wrap (x.1 - (6 : Int)))
                  let v16 := (IntKind.i64.wrap (v15 + (1 : Int)))
                  (F_impl_BitWords (v16, r1.1.1, r2.1.1, ())).bind fun r17 =>
                  some ((r17.1.1, ()), ())
                else
                  if (x.1 == (9 : Int)) then
                    (F_impl_ShiftWord (r1.1.1, r2.1.1, (x.1 == (9 : Int)), ())).bind fun r18 =>
                    some ((((0 : Int), (r18.1.1, ())), ()), ())
                  else
                    if (x.1 == (10 : Int)) then
                      (F_impl_ShiftWord (r1.1.1, r2.1.1, (x.1 == (9 : Int)), ())).bind fun r19 =>
                      some ((((0 : Int), (r19.1.1, ())), ()), ())
                    else
                      if (x.1 == (11 : Int)) then
                        (F_impl_SignedOf (r1.1.1, ())).bind fun r20 =>
                        (F_impl_SignedOf (r2.1.1, ())).bind fun r21 =>
                        if (ltI r20.1.1 r21.1.1) then
                          some ((((0 : Int), ((1 : Int), ())), ()), ())
                        else
                          some ((((0 : Int), ((0 : Int), ())), ()), ())
                      else
                        some ((((3 : Int), ((0 : Int), ())), ()), ())
abbrev C_impl_AluOf : Con := ⟨P_impl_AluOf, R_impl_AluOf, F_impl_AluOf, false⟩
abbrev G_impl_AluOf : Env := [(49, C_impl_AddWords), (86, C_impl_WrapWord), (202, C_impl_SignedOf), (225, C_impl_MulWords), (226, C_impl_DivWords), (227, C_impl_RemWords), (228, C_impl_BitWords), (229, C_impl_ShiftWord)]
theorem g_impl_AluOf : EnvOk Tryz.prog G_impl_AluOf := (env_cons s_impl_AddWords (env_cons s_impl_WrapWord (env_cons s_impl_SignedOf (env_cons s_impl_MulWords (env_cons s_impl_DivWords (env_cons s_impl_RemWords (env_cons s_impl_BitWords (env_cons s_impl_ShiftWord env_nil))))))))
theorem r_impl_AluOf (x) : runFn T G_impl_AluOf [] Tryz.f206 P_impl_AluOf R_impl_AluOf x = F_impl_AluOf x := by kernel_rfl
theorem s_impl_AluOf : CallsOk Tryz.prog 206 C_impl_AluOf :=
  fn_calls (L := []) hT g_impl_AluOf Tryz.f206 (by kernel_rfl) (by kernel_rfl) (by kernel_rfl) (plain_ok (by kernel_rfl)) r_impl_AluOf
/-! impl.WritesD -/
abbrev P_impl_WritesD : List PK := [.val YI]
abbrev R_impl_WritesD : List VK := [.s (.dat .bool)]
def F_impl_WritesD (x : denP P_impl_WritesD) : Option (denV R_impl_WritesD × denQ P_impl_WritesD) :=
  (F_impl_within (x.1, (1 : Int), (14 : Int), ())).bind fun r1 =>
  if r1.1.1 = false then
    (F_impl_within (x.1, (19 : Int), (21 : Int), ())).bind fun r2 =>
    some ((r2.1.1, ()), ())
  else
    some ((true, ()), ())
abbrev C_impl_WritesD : Con := ⟨P_impl_WritesD, R_impl_WritesD, F_impl_WritesD, false⟩
abbrev G_impl_WritesD : Env := [(67, C_impl_within)]
theorem g_impl_WritesD : EnvOk Tryz.prog G_impl_WritesD := (env_cons s_impl_within env_nil)
theorem r_impl_WritesD (x) : runFn T G_impl_WritesD [] Tryz.f207 P_impl_WritesD R_impl_WritesD x = F_impl_WritesD x := by kernel_rfl
theorem s_impl_WritesD : CallsOk Tryz.prog 207 C_impl_WritesD :=
  fn_calls (L := []) hT g_impl_WritesD Tryz.f207 (by kernel_rfl) (by kernel_rfl) (by kernel_rfl) (plain_ok (by kernel_rfl)) r_impl_WritesD
/-! (*impl.core).do -/
abbrev P_impl_core_do : List PK := [.box [.own 2 YI, .dat YI, .own 2 YI, .dat .bool, .dat .bool, .dat .bool, .dat YI, .own 2 YI, .own 2 YI, .dat Y25, .own 2 YI, .dat YI, .dat YI] [.own 2 YI, .dat YI, .own 2 YI, .dat .bool, .dat .bool, .dat .bool, .dat YI, .own 2 YI, .own 2 YI, .dat Y25, .own 2 YI, .dat YI, .dat YI], .val Y72]
abbrev R_impl_core_do : List VK := [.s (.dat .bool)]
abbrev i_impl_core_do_100000 : Shp := { slots := [(0, .s (.ptr 9000000 0)), (3, .s (.ptr 3 0)), (5, .s (.dat YI)), (6, .s (.dat YI)), (7, .s (.dat YI)), (8, .s (.dat YI)), (9, .s (.dat YI)), (10, .s (.dat YI)), (11, .s (.dat YI)), (12, .s (.dat YI)), (56, .s (.dat YI))], boxes := [(3, [.dat YI, .dat YI, .dat YI, .dat YI]), (9000000, [.own 2 YI, .dat YI, .own 2 YI, .dat .bool, .dat .bool, .dat .bool, .dat YI, .own 2 YI, .own 2 YI, .dat Y25, .own 2 YI, .dat YI, .dat YI])], rows := [] }
abbrev o_impl_core_do_100000 : List (Ex × Shp) := [(.normal, { slots := [(0, .s (.ptr 9000000 0)), (3, .s (.ptr 3 0)), (6, .s (.dat YI)), (11, .s (.dat YI))], boxes := [(3, [.dat YI, .dat YI, .dat YI, .dat YI]), (9000000, [.own 2 YI, .dat YI, .own 2 YI, .dat .bool, .dat .bool, .dat .bool, .dat YI, .own 2 YI, .own 2 YI, .dat Y25, .own 2 YI, .dat YI, .dat YI])], rows := [] }), (.ret, { slots := [(4, .s (.dat .bool))], boxes := [(9000000, [.own 2 YI, .dat YI, .own 2 YI, .dat .bool, .dat .bool, .dat .bool, .dat YI, .own 2 YI, .own 2 YI, .dat Y25, .own 2 YI, .dat YI, .dat YI])], rows := [] })]
def L_impl_core_do_100000 (u100000 : i_impl_core_do_100000.den) : Option (denO o_impl_core_do_100000) :=
  if (u100000.1.2.2.2.2.2.2.2.2.2.2.1 == (12 : Int)) then
    some (.inl (((), ((), (u100000.1.2.2.2.1, (u100000.1.2.2.2.2.2.2.2.1, ())))), ((u100000.2.1.1, (u100000.2.1.2.1, ())), ())))
  else
    if (u100000.1.2.2.2.2.2.2.2.2.2.2.1 == (13 : Int)) then
      let v40 := (IntKind.i64.wrap (u100000.2.1.1.2.2.2.1 * (65536 : Int)))
      some (.inl (((), ((), (u100000.1.2.2.2.1, (v40, ())))), ((u100000.2.1.1, (u100000.2.1.2.1, ())), ())))
    else
      if (u100000.1.2.2.2.2.2.2.2.2.2.2.1 == (14 : Int)) then
        (F_impl_core_load (u100000.2.1.2.1, u100000.1.2.2.2.2.2.2.2.1, ())).bind fun r41 =>
        if (!r41.1.2.1) then
          some (.inr (.inl ((false, ()), ((r41.2.1, ()), ()))))
        else
          some (.inl (((), ((), (u100000.1.2.2.2.1, (r41.1.1, ())))), ((u100000.2.1.1, (r41.2.1, ())), ())))
      else
        if (u100000.1.2.2.2.2.2.2.2.2.2.2.1 == (15 : Int)) then
          (F_impl_core_store (u100000.2.1.2.1, u100000.1.2.2.2.2.2.2.2.1, u100000.1.2.2.2.2.2.1, ())).bind fun r42 =>
          if (!r42.1.1) then
            some (.inr (.inl ((false, ()), ((r42.2.1, ()), ()))))
          else
            some (.inl (((), ((), (u100000.1.2.2.2.1, (u100000.1.2.2.2.2.2.2.2.2.1, ())))), ((u100000.2.1.1, (r42.2.1, ())), ())))
        else
          if (u100000.1.2.2.2.2.2.2.2.2.2.2.1 == (16 : Int)) then
            if (u100000.1.2.2.2.2.2.2.2.2.2.1 == (16 : Int)) = true then
              if (u100000.1.2.2.2.2.2.1 == u100000.1.2.2.2.2.2.2.1) = false then
                if (u100000.1.2.2.2.2.2.2.2.2.2.1 == (17 : Int)) = true then
                  if (u100000.1.2.2.2.2.2.1 != u100000.1.2.2.2.2.2.2.1) = false then
                    if (u100000.1.2.2.2.2.2.2.2.2.2.1 == (18 : Int)) = true then
                      (F_impl_SignedOf (u100000.1.2.2.2.2.2.1, ())).bind fun r43 =>
                      (F_impl_SignedOf (u100000.1.2.2.2.2.2.2.1, ())).bind fun r44 =>
                      if (ltI r43.1.1 r44.1.1) then
                        some (.inl (((), ((), (u100000.1.2.2.2.2.1, (u100000.1.2.2.2.2.2.2.2.2.1, ())))), ((u100000.2.1.1, (u100000.2.1.2.1, ())), ())))
                      else
                        some (.inl (((), ((), (u100000.1.2.2.2.1, (u100000.1.2.2.2.2.2.2.2.2.1, ())))), ((u100000.2.1.1, (u100000.2.1.2.1, ())), ())))
                    else
                      some (.inl (((), ((), (u100000.1.2.2.2.1, (u100000.1.2.2.2.2.2.2.2.2.1, ())))), ((u100000.2.1.1, (u100000.2.1.2.1, ())), ())))
                  else
                    some (.inl (((), ((), (u100000.1.2.2.2.2.1, (u100000.1.2.2.2.2.2.2.2.2.1, ())))), ((u100000.2.1.1, (u100000.2.1.2.1, ())), ())))
                else
                  if (u100000.1.2.2.2.2.2.2.2.2.2.1 == (18 : Int)) = true then
                    (F_impl_SignedOf (u100000.1.2.2.2.2.2.1, ())).bind fun r45 =>
                    (F_impl_SignedOf (u100000.1.2.2.2.2.2.2.1, ())).bind fun r46 =>
                    if (ltI r45.1.1 r46.1.1) then
                      some (.inl (((), ((), (u100000.1.2.2.2.2.1, (u100000.1.2.2.2.2.2.2.2.2.1, ())))), ((u100000.2.1.1, (u100000.2.1.2.1, ())), ())))
                    else
                      some (.inl (((), ((), (u100000.1.2.2.2.1, (u100000.1.2.2.2.2.2.2.2.2.1, ())))), ((u100000.2.1.1, (u100000.2.1.2.1, ())), ())))
                  else
                    some (.inl (((), ((), (u100000.1.2.2.2.1, (u100000.1.2.2.2.2.2.2.2.2.1, ())))), ((u100000.2.1.1, (u100000.2.1.2.1, ())), ())))
              else
                some (.inl (((), ((), (u100000.1.2.2.2.2.1, (u100000.1.2.2.2.2.2.2.2.2.1, ())))), ((u100000.2.1.1, (u100000.2.1.2.1, ())), ())))
            else
              if (u100000.1.2.2.2.2.2.2.2.2.2.1 == (17 : Int)) = true then
                if (u100000.1.2.2.2.2.2.1 != u100000.1.2.2.2.2.2.2.1) = false then
                  if (u100000.1.2.2.2.2.2.2.2.2.2.1 == (18 : Int)) = true then
                    (F_impl_SignedOf (u100000.1.2.2.2.2.2.1, ())).bind fun r47 =>
                    (F_impl_SignedOf (u100000.1.2.2.2.2.2.2.1, ())).bind fun r48 =>
                    if (ltI r47.1.1 r48.1.1) then
                      some (.inl (((), ((), (u100000.1.2.2.2.2.1, (u100000.1.2.2.2.2.2.2.2.2.1, ())))), ((u100000.2.1.1, (u100000.2.1.2.1, ())), ())))
                    else
                      some (.inl (((), ((), (u100000.1.2.2.2.1, (u100000.1.2.2.2.2.2.2.2.2.1, ())))), ((u100000.2.1.1, (u100000.2.1.2.1, ())), ())))
                  else
                    some (.inl (((), ((), (u100000.1.2.2.2.1, (u100000.1.2.2.2.2.2.2.2.2.1, ())))), ((u100000.2.1.1, (u100000.2.1.2.1, ())), ())))
                else
                  some (.inl (((), ((), (u100000.1.2.2.2.2.1, (u100000.1.2.2.2.2.2.2.2.2.1, ())))), ((u100000.2.1.1, (u100000.2.1.2.1, ())), ())))
              else
                if (u100000.1.2.2.2.2.2.2.2.2.2.1 == (18 : Int)) = true then
                  (F_impl_SignedOf (u100000.1.2.2.2.2.2.1, ())).bind fun r49 =>
                  (F_impl_SignedOf (u100000.1.2.2.2.2.2.2.1, ())).bind fun r50 =>
                  if (ltI r49.1.1 r50.1.1) then
                    some (.inl (((), ((), (u100000.1.2.2.2.2.1, (u100000.1.2.2.2.2.2.2.2.2.1, ())))), ((u100000.2.1.1, (u100000.2.1.2.1, ())), ())))
                  else
                    some (.inl (((), ((), (u100000.1.2.2.2.1, (u100000.1.2.2.2.2.2.2.2.2.1, ())))), ((u100000.2.1.1, (u100000.2.1.2.1, ())), ())))
                else
                  some (.inl (((), ((), (u100000.1.2.2.2.1, (u100000.1.2.2.2.2.2.2.2.2.1, ())))), ((u100000.2.1.1, (u100000.2.1.2.1, ())), ())))
          else
            if (u100000.1.2.2.2.2.2.2.2.2.2.2.1 == (17 : Int)) then
              if (u100000.1.2.2.2.2.2.2.2.2.2.1 == (16 : Int)) = true then
                if (u100000.1.2.2.2.2.2.1 == u100000.1.2.2.2.2.2.2.1) = false then
                  if (u100000.1.2.2.2.2.2.2.2.2.2.1 == (17 : Int)) = true then
                    if (u100000.1.2.2.2.2.2.1 != u100000.1.2.2.2.2.2.2.1) = false then
                      if (u100000.1.2.2.2.2.2.2.2.2.2.1 == (18 : Int)) = true then
                        (F_impl_SignedOf (u100000.1.2.2.2.2.2.1, ())).bind fun r51 =>
                        (F_impl_SignedOf (u100000.1.2.2.2.2.2.2.1, ())).bind fun r52 =>
                        if (ltI r51.1.1 r52.1.1) then
                          some (.inl (((), ((), (u100000.1.2.2.2.2.1, (u100000.1.2.2.2.2.2.2.2.2.1, ())))), ((u100000.2.1.1, (u100000.2.1.2.1, ())), ())))
                        else
                          some (.inl (((), ((), (u100000.1.2.2.2.1, (u100000.1.2.2.2.2.2.2.2.2.1, ())))), ((u100000.2.1.1, (u100000.2.1.2.1, ())), ())))
                      else
                        some (.inl (((), ((), (u100000.1.2.2.2.1, (u100000.1.2.2.2.2.2.2.2.2.1, ())))), ((u100000.2.1.1, (u100000.2.1.2.1, ())), ())))
                    else
                      some (.inl (((), ((), (u100000.1.2.2.2.2.1, (u100000.1.2.2.2.2.2.2.2.2.1, ())))), ((u100000.2.1.1, (u100000.2.1.2.1, ())), ())))
                  else
                    if (u100000.1.2.2.2.2.2.2.2.2.2.1 == (18 : Int)) = true then
                      (F_impl_SignedOf (u100000.1.2.2.2.2.2.1, ())).bind fun r53 =>
                      (F_impl_SignedOf (u100000.1.2.2.2.2.2.2.1, ())).bind fun r54 =>
                      if (ltI r53.1.1 r54.1.1) then
                        some (.inl (((), ((), (u100000.1.2.2.2.2.1, (u100000.1.2.2.2.2.2.2.2.2.1, ())))), ((u100000.2.1.1, (u100000.2.1.2.1, ())), ())))
                      else
                        some (.inl (((), ((), (u100000.1.2.2.2.1, (u100000.1.2.2.2.2.2.2.2.2.1, ())))), ((u100000.2.1.1, (u100000.2.1.2.1, ())), ())))
                    else
                      some (.inl (((), ((), (u100000.1.2.2.2.1, (u100000.1.2.2.2.2.2.2.2.2.1, ())))), ((u100000.2.1.1, (u100000.2.1.2.1, ())), ())))
                else
                  some (.inl (((), ((), (u100000.1.2.2.2.2.1, (u100000.1.2.2.2.2.2.2.2.2.1, ())))), ((u100000.2.1.1, (u100000.2.1.2.1, ())), ())))
              else
                if (u100000.1.2.2.2.2.2.2.2.2.2.1 == (17 : Int)) = true then
                  if (u100000.1.2.2.2.2.2.1 != u100000.1.2.2.2.2.2.2.1) = false then
                    if (u100000.1.2.2.2.2.2.2.2.2.2.1 == (18 : Int)) = true then
                      (F_impl_SignedOf (u100000.1.2.2.2.2.2.1, ())).bind fun r55 =>
                      (F_impl_SignedOf (u100000.1.2.2.2.2.2.2.1, ())).bind fun r56 =>
                      if (ltI r55.1.1 r56.1.1) then
                        some (.inl (((), ((), (u100000.1.2.2.2.2.1, (u100000.1.2.2.2.2.2.2.2.2.1, ())))), ((u100000.2.1.1, (u100000.2.1.2.1, ())), ())))
                      else
                        some (.inl (((), ((), (u100000.1.2.2.2.1, (u100000.1.2.2.2.2.2.2.2.2.1, ())))), ((u100000.2.1.1, (u100000.2.1.2.1, ())), ())))
                    else
                      some (.inl (((), ((), (u100000.1.2.2.2.1, (u100000.1.2.2.2.2.2.2.2.2.1, ())))), ((u100000.2.1.1, (u100000.2.1.2.1, ())), ())))
                  else
                    some (.inl (((), ((), (u100000.1.2.2.2.2.1, (u100000.1.2.2.2.2.2.2.2.2.1, ())))), ((u100000.2.1.1, (u100000.2.1.2.1, ())), ())))
                else
                  if (u100000.1.2.2.2.2.2.2.2.2.2.1 == (18 : Int)) = true then
                    (F_impl_SignedOf (u100000.1.2.2.2.2.2.1, ())).bind fun r57 =>
                    (F_impl_SignedOf (u100000.1.2.2.2.2.2.2.1, ())).bind fun r58 =>
                    if (ltI r57.1.1 r58.1.1) then
                      some (.inl (((), ((), (u100000.1.2.2.2.2.1, (u100000.1.2.2.2.2.2.2.2.2.1, ())))), ((u100000.2.1.1, (u100000.2.1.2.1, ())), ())))
                    else
                      some (.inl (((), ((), (u100000.1.2.2.2.1, (u100000.1.2.2.2.2.2.2.2.2.1, ())))), ((u100000.2.1.1, (u100000.2.1.2.1, ())), ())))
                  else
                    some (.inl (((), ((), (u100000.1.2.2.2.1, (u100000.1.2.2.2.2.2.2.2.2.1, ())))), ((u100000.2.1.1, (u100000.2.1.2.1, ())), ())))
            else
              if (u100000.1.2.2.2.2.2.2.2.2.2.2.1 == (18 : Int)) then
                if (u100000.1.2.2.2.2.2.2.2.2.2.1 == (16 : Int)) = true then
                  if (u100000.1.2.2.2.2.2.1 == u100000.1.2.2.2.2.2.2.1) = false then
                    if (u100000.1.2.2.2.2.2.2.2.2.2.1 == (17 : Int)) = true then
                      if (u100000.1.2.2.2.2.2.1 != u100000.1.2.2.2.2.2.2.1) = false then
                        if (u100000.1.2.2.2.2.2.2.2.2.2.1 == (18 : Int)) = true then
                          (F_impl_SignedOf (u100000.1.2.2.2.2.2.1, ())).bind fun r59 =>
                          (F_impl_SignedOf (u100000.1.2.2.2.2.2.2.1, ())).bind fun r60 =>
                          if (ltI r59.1.1 r60.1.1) then
                            some (.inl (((), ((), (u100000.1.2.2.2.2.1, (u100000.1.2.2.2.2.2.2.2.2.1, ())))), ((u100000.2.1.1, (u100000.2.1.2.1, ())), ())))
                          else
                            some (.inl (((), ((), (u100000.1.2.2.2.1, (u100000.1.2.2.2.2.2.2.2.2.1, ())))), ((u100000.2.1.1, (u100000.2.1.2.1, ())), ())))
                        else
                          some (.inl (((), ((), (u100000.1.2.2.2.1, (u100000.1.2.2.2.2.2.2.2.2.1, ())))), ((u100000.2.1.1, (u100000.2.1.2.1, ())), ())))
                      else
                        some (.inl (((), ((), (u100000.1.2.2.2.2.1, (u100000.1.2.2.2.2.2.2.2.2.1, ())))), ((u100000.2.1.1, (u100000.2.1.2.1, ())), ())))
                    else
                      if (u100000.1.2.2.2.2.2.2.2.2.2.1 == (18 : Int)) = true then
                        (F_impl_SignedOf (u100000.1.2.2.2.2.2.1, ())).bind fun r61 =>
                        (F_impl_SignedOf (u100000.1.2.2.2.2.2.2.1, ())).bind fun r62 =>
                        if (ltI r61.1.1 r62.1.1) then
                          some (.inl (((), ((), (u100000.1.2.2.2.2.1, (u100000.1.2.2.2.2.2.2.2.2.1, ())))), ((u100000.2.1.1, (u100000.2.1.2.1, ())), ())))
                        else
                          some (.inl (((), ((), (u100000.1.2.2.2.1, (u100000.1.2.2.2.2.2.2.2.2.1, ())))), ((u100000.2.1.1, (u100000.2.1.2.1, ())), ())))
                      else
                        some (.inl (((), ((), (u100000.1.2.2.2.1, (u100000.1.2.2.2.2.2.2.2.2.1, ())))), ((u100000.2.1.1, (u100000.2.1.2.1, ())), ())))
                  else
                    some (.inl (((), ((), (u100000.1.2.2.2.2.1, (u100000.1.2.2.2.2.2.2.2.2.1, ())))), ((u100000.2.1.1, (u100000.2.1.2.1, ())), ())))
                else
                  if (u100000.1.2.2.2.2.2.2.2.2.2.1 == (17 : Int)) = true then
                    if (u100000.1.2.2.2.2.2.1 != u100000.1.2.2.2.2.2.2.1) = false then
                      if (u100000.1.2.2.2.2.2.2.2.2.2.1 == (18 : Int)) = true then
                        (F_impl_SignedOf (u100000.1.2.2.2.2.2.1, ())).bind fun r63 =>
                        (F_impl_SignedOf (u100000.1.2.2.2.2.2.2.1, ())).bind fun r64 =>
                        if (ltI r63.1.1 r64.1.1) then
                          some (.inl (((), ((), (u100000.1.2.2.2.2.1, (u100000.1.2.2.2.2.2.2.2.2.1, ())))), ((u100000.2.1.1, (u100000.2.1.2.1, ())), ())))
                        else
                          some (.inl (((), ((), (u100000.1.2.2.2.1, (u100000.1.2.2.2.2.2.2.2.2.1, ())))), ((u100000.2.1.1, (u100000.2.1.2.1, ())), ())))
                      else
                        some (.inl (((), ((), (u100000.1.2.2.2.1, (u100000.1.2.2.2.2.2.2.2.2.1, ())))), ((u100000.2.1.1, (u100000.2.1.2.1, ())), ())))
                    else
                      some (.inl (((), ((), (u100000.1.2.2.2.2.1, (u100000.1.2.2.2.2.2.2.2.2.1, ())))), ((u100000.2.1.1, (u100000.2.1.2.1, ())), ())))
                  else
                    if (u100000.1.2.2.2.2.2.2.2.2.2.1 == (18 : Int)) = true then
                      (F_impl_SignedOf (u100000.1.2.2.2.2.2.1, ())).bind fun r65 =>
                      (F_impl_SignedOf (u100000.1.2.2.2.2.2.2.1, ())).bind fun r66 =>
                      if (ltI r65.1.1 r66.1.1) then
                        some (.inl (((), ((), (u100000.1.2.2.2.2.1, (u100000.1.2.2.2.2.2.2.2.2.1, ())))), ((u100000.2.1.1, (u100000.2.1.2.1, ())), ())))
                      else
                        some (.inl (((), ((), (u100000.1.2.2.2.1, (u100000.1.2.2.2.2.2.2.2.2.1, ())))), ((u100000.2.1.1, (u100000.2.1.2.1, ())), ())))
                    else
                      some (.inl (((), ((), (u100000.1.2.2.2.1, (u100000.1.2.2.2.2.2.2.2.2.1, ())))), ((u100000.2.1.1, (u100000.2.1.2.1, ())), ())))
              else
                if (u100000.1.2.2.2.2.2.2.2.2.2.2.1 == (19 : Int)) then
                  some (.inl (((), ((), (u100000.1.2.2.2.2.1, (u100000.1.2.2.2.1, ())))), ((u100000.2.1.1, (u100000.2.1.2.1, ())), ())))
                else
                  if (u100000.1.2.2.2.2.2.2.2.2.2.2.1 == (20 : Int)) then
                    some (.inl (((), ((), (u100000.1.2.2.2.2.2.2.2.1, (u100000.1.2.2.2.1, ())))), ((u100000.2.1.1, (u100000.2.1.2.1, ())), ())))
                  else
                    if (u100000.1.2.2.2.2.2.2.2.2.2.2.1 == (21 : Int)) then
                      (F_impl_Hart_get ((u100000.2.1.2.1.1, (u100000.2.1.2.1.2.1, (u100000.2.1.2.1.2.2.1, (u100000.2.1.2.1.2.2.2.1, (u100000.2.1.2.1.2.2.2.2.1, (u100000.2.1.2.1.2.2.2.2.2.1, (u100000.2.1.2.1.2.2.2.2.2.2.1, (u100000.2.1.2.1.2.2.2.2.2.2.2.1, (u100000.2.1.2.1.2.2.2.2.2.2.2.2.1, ()))))))))), u100000.2.1.1.2.2.2.1, ())).bind fun r67 =>
                      some (.inl (((), ((), (u100000.1.2.2.2.1, (r67.1.1, ())))), ((u100000.2.1.1, (u100000.2.1.2.1, ())), ())))
                    else
                      if (u100000.1.2.2.2.2.2.2.2.2.2.2.1 == (22 : Int)) then
                        (F_impl_Hart_set ((u100000.2.1.2.1.1, (u100000.2.1.2.1.2.1, (u100000.2.1.2.1.2.2.1, (u100000.2.1.2.1.2.2.2.1, (u100000.2.1.2.1.2.2.2.2.1, (u100000.2.1.2.1.2.2.2.2.2.1, (u100000.2.1.2.1.2.2.2.2.2.2.1, (u100000.2.1.2.1.2.2.2.2.2.2.2.1, (u100000.2.1.2.1.2.2.2.2.2.2.2.2.1, ()))))))))), u100000.2.1.1.2.2.2.1, u100000.1.2.2.2.2.2.2.1, ())).bind fun r68 =>
                        some (.inl (((), ((), (u100000.1.2.2.2.1, (u100000.1.2.2.2.2.2.2.2.2.1, ())))), ((u100000.2.1.1, ((r68.2.1.1, (r68.2.1.2.1, (r68.2.1.2.2.1, (r68.2.1.2.2.2.1, (r68.2.1.2.2.2.2.1, (r68.2.1.2.2.2.2.2.1, (r68.2.1.2.2.2.2.2.2.1, (r68.2.1.2.2.2.2.2.2.2.1, (r68.2.1.2.2.2.2.2.2.2.2.1, (u100000.2.1.2.1.2.2.2.2.2.2.2.2.2.1, (u100000.2.1.2.1.2.2.2.2.2.2.2.2.2.2.1, (u100000.2.1.2.1.2.2.2.2.2.2.2.2.2.2.2.1, (u100000.2.1.2.1.2.2.2.2.2.2.2.2.2.2.2.2.1, ()))))))))))))), ())), ())))
                      else
                        if (u100000.1.2.2.2.2.2.2.2.2.2.2.1 == (23 : Int)) then
                          (F_impl_core_fail (u100000.2.1.2.1, (5 : Int), (0 : Int), ())).bind fun r69 =>
                          some (.inr (.inl ((false, ()), ((r69.2.1, ()), ()))))
                        else
                          if (u100000.1.2.2.2.2.2.2.2.2.2.2.1 == (24 : Int)) then
                            (F_impl_Hart_back ((u100000.2.1.2.1.1, (u100000.2.1.2.1.2.1, (u100000.2.1.2.1.2.2.1, (u100000.2.1.2.1.2.2.2.1, (u100000.2.1.2.1.2.2.2.2.1, (u100000.2.1.2.1.2.2.2.2.2.1, (u100000.2.1.2.1.2.2.2.2.2.2.1, (u100000.2.1.2.1.2.2.2.2.2.2.2.1, (u100000.2.1.2.1.2.2.2.2.2.2.2.2.1, ()))))))))), ())).bind fun r70 =>
                            some (.inl (((), ((), (r70.2.1.2.1, (u100000.1.2.2.2.2.2.2.2.2.1, ())))), ((u100000.2.1.1, ((r70.2.1.1, (r70.2.1.2.1, (r70.2.1.2.2.1, (r70.2.1.2.2.2.1, (r70.2.1.2.2.2.2.1, (r70.2.1.2.2.2.2.2.1, (r70.2.1.2.2.2.2.2.2.1, (r70.2.1.2.2.2.2.2.2.2.1, (r70.2.1.2.2.2.2.2.2.2.2.1, (u100000.2.1.2.1.2.2.2.2.2.2.2.2.2.1, (u100000.2.1.2.1.2.2.2.2.2.2.2.2.2.2.1, (u100000.2.1.2.1.2.2.2.2.2.2.2.2.2.2.2.1, (u100000.2.1.2.1.2.2.2.2.2.2.2.2.2.2.2.2.1, ()))))))))))))), ())), ())))
                          else
                            if (u100000.1.2.2.2.2.2.2.2.2.2.2.1 == (25 : Int)) then
                              some (.inl (((), ((), (u100000.1.2.2.2.1, (u100000.1.2.2.2.2.2.2.2.2.1, ())))), ((u100000.2.1.1, ((u100000.2.1.2.1.1, (u100000.2.1.2.1.2.1, (u100000.2.1.2.1.2.2.1, (u100000.2.1.2.1.2.2.2.1, (true, (u100000.2.1.2.1.2.2.2.2.2.1, (u100000.2.1.2.1.2.2.2.2.2.2.1, (u100000.2.1.2.1.2.2.2.2.2.2.2.1, (u100000.2.1.2.1.2.2.2.2.2.2.2.2.1, (u100000.2.1.2.1.2.2.2.2.2.2.2.2.2.1, (u100000.2.1.2.1.2.2.2.2.2.2.2.2.2.2.1, (u100000.2.1.2.1.2.2.2.2.2.2.2.2.2.2.2.1, (u100000.2.1.2.1.2.2.2.2.2.2.2.2.2.2.2.2.1, ()))))))))))))), ())), ())))
                            else
                              if (u100000.1.2.2.2.2.2.2.2.2.2.2.1 == (26 : Int)) then
                                some (.inl (((), ((), (u100000.1.2.2.1, (u100000.1.2.2.2.2.2.2.2.2.1, ())))), ((u100000.2.1.1, ((u100000.2.1.2.1.1, (u100000.2.1.2.1.2.1, (u100000.2.1.2.1.2.2.1, (true, (u100000.2.1.2.1.2.2.2.2.1, (u100000.2.1.2.1.2.2.2.2.2.1, (u100000.2.1.2.1.2.2.2.2.2.2.1, (u100000.2.1.2.1.2.2.2.2.2.2.2.1, (u100000.2.1.2.1.2.2.2.2.2.2.2.2.1, (u100000.2.1.2.1.2.2.2.2.2.2.2.2.2.1, (u100000.2.1.2.1.2.2.2.2.2.2.2.2.2.2.1, (u100000.2.1.2.1.2.2.2.2.2.2.2.2.2.2.2.1, (u100000.2.1.2.1.2.2.2.2.2.2.2.2.2.2.2.2.1, ()))))))))))))), ())), ())))
                              else
                                if 0 ≤ u100000.2.1.1.2.2.2.1 ∧ u100000.2.1.1.2.2.2.1 < ((u100000.2.1.2.1.1.length : Nat) : Int) then
                                  ((u100000.2.1.2.1.1)[(u100000.2.1.1.2.2.2.1).toNat]?).bind fun y71 =>
                                  (F_impl_AluOf (u100000.1.2.2.2.2.2.2.2.2.2.1, u100000.1.2.2.2.2.2.2.1, y71, ())).bind fun r72 =>
                                  some (.inl (((), ((), (u100000.1.2.2.2.1, (r72.1.1.2.1, ())))), ((u100000.2.1.1, (u100000.2.1.2.1, ())), ())))
                                else none
def F_impl_core_do (x : denP P_impl_core_do) : Option (denV R_impl_core_do × denQ P_impl_core_do) :=
  (F_impl_AddWords (x.1.2.1, (1 : Int), ())).bind fun r1 =>
  (F_impl_OffsetOf (x.2.1.2.2.2.1, ())).bind fun r2 =>
  (F_impl_AddWords (x.1.2.1, r2.1.1, ())).bind fun r3 =>
  if 0 ≤ x.2.1.2.1 ∧ x.2.1.2.1 < ((x.1.1.length : Nat) : Int) then
    ((x.1.1)[(x.2.1.2.1).toNat]?).bind fun y4 =>
    if 0 ≤ x.2.1.2.2.1 ∧ x.2.1.2.2.1 < ((x.1.1.length : Nat) : Int) then
      ((x.1.1)[(x.2.1.2.2.1).toNat]?).bind fun y5 =>
      (F_impl_OffsetOf (x.2.1.2.2.2.1, ())).bind fun r6 =>
      (F_impl_AddWords (y5, r6.1.1, ())).bind fun r7 =>
      (L_impl_core_do_100000 (((), ((), (x.1.2.1, (r1.1.1, (r3.1.1, (y4, (y5, (r7.1.1, ((0 : Int), (x.2.1.1, (x.2.1.1, ()))))))))))), (((x.2.1.1, (x.2.1.2.1, (x.2.1.2.2.1, (x.2.1.2.2.2.1, ())))), (x.1, ())), ()))).bind fun z73 =>
      match z73 with
      | .inl x74 =>
        (F_impl_WritesD (x74.2.1.1.1, ())).bind fun r75 =>
        if r75.1.1 = true then
          if (ltI (0 : Int) x74.2.1.1.2.1) then
            if 0 ≤ x74.2.1.1.2.1 ∧ x74.2.1.1.2.1 < ((x74.2.1.2.1.1.length : Nat) : Int) then
              ((x74.2.1.2.1.1)[(x74.2.1.1.2.1).toNat]?).bind fun y76 =>
              let v77 := (x74.2.1.2.1.1.set (x74.2.1.1.2.1).toNat x74.1.2.2.2.1)
              let v78 := (IntKind.i64.wrap (x74.2.1.2.1.2.2.2.2.2.2.1 + (1 : Int)))
              let v79 := (if (1000000000 : Int) < v78 then (1000000000 : Int) else v78)
              some ((true, ()), ((v77, (x74.1.2.2.1, (x74.2.1.2.1.2.2.1, (x74.2.1.2.1.2.2.2.1, (x74.2.1.2.1.2.2.2.2.1, (x74.2.1.2.1.2.2.2.2.2.1, (v79, (x74.2.1.2.1.2.2.2.2.2.2.2.1, (x74.2.1.2.1.2.2.2.2.2.2.2.2.1, (x74.2.1.2.1.2.2.2.2.2.2.2.2.2.1, (x74.2.1.2.1.2.2.2.2.2.2.2.2.2.2.1, (x74.2.1.2.1.2.2.2.2.2.2.2.2.2.2.2.1, (x74.2.1.2.1.2.2.2.2.2.2.2.2.2.2.2.2.1, ()))))))))))))), ()))
            else none
          else
            let v80 := (IntKind.i64.wrap (x74.2.1.2.1.2.2.2.2.2.2.1 + (1 : Int)))
            let v81 := (if (1000000000 : Int) < v80 then (1000000000 : Int) else v80)
            some ((true, ()), ((x74.2.1.2.1.1, (x74.1.2.2.1, (x74.2.1.2.1.2.2.1, (x74.2.1.2.1.2.2.2.1, (x74.2.1.2.1.2.2.2.2.1, (x74.2.1.2.1.2.2.2.2.2.1, (v81, (x74.2.1.2.1.2.2.2.2.2.2.2.1, (x74.2.1.2.1.2.2.2.2.2.2.2.2.1, (x74.2.1.2.1.2.2.2.2.2.2.2.2.2.1, (x74.2.1.2.1.2.2.2.2.2.2.2.2.2.2.1, (x74.2.1.2.1.2.2.2.2.2.2.2.2.2.2.2.1, (x74.2.1.2.1.2.2.2.2.2.2.2.2.2.2.2.2.1, ()))))))))))))), ()))
        else
          let v82 := (IntKind.i64.wrap (x74.2.1.2.1.2.2.2.2.2.2.1 + (1 : Int)))
          let v83 := (if (1000000000 : Int) < v82 then (1000000000 : Int) else v82)
          some ((true, ()), ((x74.2.1.2.1.1, (x74.1.2.2.1, (x74.2.1.2.1.2.2.1, (x74.2.1.2.1.2.2.2.1, (x74.2.1.2.1.2.2.2.2.1, (x74.2.1.2.1.2.2.2.2.2.1, (v83, (x74.2.1.2.1.2.2.2.2.2.2.2.1, (x74.2.1.2.1.2.2.2.2.2.2.2.2.1, (x74.2.1.2.1.2.2.2.2.2.2.2.2.2.1, (x74.2.1.2.1.2.2.2.2.2.2.2.2.2.2.1, (x74.2.1.2.1.2.2.2.2.2.2.2.2.2.2.2.1, (x74.2.1.2.1.2.2.2.2.2.2.2.2.2.2.2.2.1, ()))))))))))))), ()))
      | .inr z73_ =>
        match z73_ with
        | .inl x84 =>
          some ((x84.1.1, ()), (x84.2.1.1, ()))
        | .inr z73__ =>
          none
    else none
  else none
abbrev C_impl_core_do : Con := ⟨P_impl_core_do, R_impl_core_do, F_impl_core_do, false⟩
abbrev G_impl_core_do : Env := [(49, C_impl_AddWords), (50, C_impl_OffsetOf), (167, C_impl_core_fail), (200, C_impl_core_load), (201, C_impl_core_store), (202, C_impl_SignedOf), (203, C_impl_Hart_get), (204, C_impl_Hart_set), (205, C_impl_Hart_back), (206, C_impl_AluOf), (207, C_impl_WritesD)]
theorem g_impl_core_do : EnvOk Tryz.prog G_impl_core_do := (env_cons s_impl_AddWords (env_cons s_impl_OffsetOf (env_cons s_impl_core_fail (env_cons s_impl_core_load (env_cons s_impl_core_store (env_cons s_impl_SignedOf (env_cons s_impl_Hart_get (env_cons s_impl_Hart_set (env_cons s_impl_Hart_back (env_cons s_impl_AluOf (env_cons s_impl_WritesD env_nil)))))))))))
abbrev c_impl_core_do_100000 : Cut := ⟨i_impl_core_do_100000, o_impl_core_do_100000, L_impl_core_do_100000⟩
theorem t_impl_core_do_100000 (x) : run T G_impl_core_do [] (nav Tryz.f168 [1, 1, 1, 1, 1, 1, 0, 1, 1, 0]) (mk 214 i_impl_core_do_100000 x) (blockK 0 o_impl_core_do_100000) = L_impl_core_do_100000 x := by kernel_rfl
theorem k_impl_core_do_100000 : CutOk Tryz.prog 214 (.block 0 (nav Tryz.f168 [1, 1, 1, 1, 1, 1, 0, 1, 1, 0])) c_impl_core_do_100000 :=
  block_cut (L := []) hT g_impl_core_do t_impl_core_do_100000 (plain_ok (by kernel_rfl))
theorem r_impl_core_do (x) : runFn T G_impl_core_do [(100000, c_impl_core_do_100000)] Tryz.f168 P_impl_core_do R_impl_core_do x = F_impl_core_do x := by kernel_rfl
theorem s_impl_core_do : CallsOk Tryz.prog 168 C_impl_core_do :=
  fn_calls (L := [(100000, c_impl_core_do_100000)]) hT g_impl_core_do Tryz.f168 (by kernel_rfl) (by kernel_rfl) (by kernel_rfl) (seq_ok (plain_ok (by kernel_rfl)) (seq_ok (plain_ok (by kernel_rfl)) (seq_ok (plain_ok (by kernel_rfl)) (seq_ok (plain_ok (by kernel_rfl)) (seq_ok (plain_ok (by kernel_rfl)) (seq_ok (plain_ok (by kernel_rfl)) (seq_ok (seq_ok (plain_ok (by kernel_rfl)) (seq_ok (plain_ok (by kernel_rfl)) (blockc_ok (by kernel_rfl) k_impl_core_do_100000))) (plain_ok (by kernel_rfl))))))))) r_impl_core_do
/-! (*impl.core).step -/
abbrev P_impl_core_step : List PK := [.box [.own 2 YI, .dat YI, .own 2 YI, .dat .bool, .dat .bool, .dat .bool, .dat YI, .own 2 YI, .own 2 YI, .dat Y25, .own 2 YI, .dat YI, .dat YI] [.own 2 YI, .dat YI, .own 2 YI, .dat .bool, .dat .bool, .dat .bool, .dat YI, .own 2 YI, .own 2 YI, .dat Y25, .own 2 YI, .dat YI, .dat YI]]
abbrev R_impl_core_step : List VK := []
def F_impl_core_step (x : denP P_impl_core_step) : Option (denV R_impl_core_step × denQ P_impl_core_step) :=
  if x.1.2.2.2.1 then
    some ((), ((x.1.1, (x.1.2.1, (x.1.2.2.1, (x.1.2.2.2.1, (x.1.2.2.2.2.1, (x.1.2.2.2.2.2.1, (x.1.2.2.2.2.2.2.1, (x.1.2.2.2.2.2.2.2.1, (x.1.2.2.2.2.2.2.2.2.1, (x.1.2.2.2.2.2.2.2.2.2.1, (x.1.2.2.2.2.2.2.2.2.2.2.1, ((-1 : Int), ((-1 : Int), ()))))))))))))), ()))
  else
    (F_impl_Hart_due ((x.1.1, (x.1.2.1, (x.1.2.2.1, (x.1.2.2.2.1, (x.1.2.2.2.2.1, (x.1.2.2.2.2.2.1, (x.1.2.2.2.2.2.2.1, (x.1.2.2.2.2.2.2.2.1, (x.1.2.2.2.2.2.2.2.2.1, ()))))))))), ())).bind fun r1 =>
    if (leI (0 : Int) r1.1.1) then
      let v2 := (IntKind.i64.wrap ((16 : Int) + r1.1.1))
      (F_impl_core_fail ((x.1.1, (x.1.2.1, (x.1.2.2.1, (x.1.2.2.2.1, (x.1.2.2.2.2.1, (x.1.2.2.2.2.2.1, (x.1.2.2.2.2.2.2.1, (x.1.2.2.2.2.2.2.2.1, (x.1.2.2.2.2.2.2.2.2.1, (x.1.2.2.2.2.2.2.2.2.2.1, (x.1.2.2.2.2.2.2.2.2.2.2.1, ((-1 : Int), ((-1 : Int), ()))))))))))))), v2, (0 : Int), ())).bind fun r3 =>
      some ((), (r3.2.1, ()))
    else
      if x.1.2.2.2.2.1 then
        (F_impl_Hart_pending ((x.1.1, (x.1.2.1, (x.1.2.2.1, (x.1.2.2.2.1, (x.1.2.2.2.2.1, (x.1.2.2.2.2.2.1, (x.1.2.2.2.2.2.2.1, (x.1.2.2.2.2.2.2.2.1, (x.1.2.2.2.2.2.2.2.2.1, ()))))))))), ())).bind fun r4 =>
        if 0 ≤ (7 : Int) ∧ (7 : Int) < ((x.1.2.2.1.length : Nat) : Int) then
          ((x.1.2.2.1)[((7 : Int)).toNat]?).bind fun y5 =>
          let v6 := (iand .i64 r4.1.1 y5)
          if (v6 == (0 : Int)) then
            some ((), ((x.1.1, (x.1.2.1, (x.1.2.2.1, (x.1.2.2.2.1, (x.1.2.2.2.2.1, (x.1.2.2.2.2.2.1, (x.1.2.2.2.2.2.2.1, (x.1.2.2.2.2.2.2.2.1, (x.1.2.2.2.2.2.2.2.2.1, (x.1.2.2.2.2.2.2.2.2.2.1, (x.1.2.2.2.2.2.2.2.2.2.2.1, ((-1 : Int), ((-1 : Int), ()))))))))))))), ()))
          else
            (F_impl_Hart_place ((x.1.1, (x.1.2.1, (x.1.2.2.1, (x.1.2.2.2.1, (false, (x.1.2.2.2.2.2.1, (x.1.2.2.2.2.2.2.1, (x.1.2.2.2.2.2.2.2.1, (x.1.2.2.2.2.2.2.2.2.1, ()))))))))), x.1.2.2.2.2.2.2.2.2.2.1, x.1.2.2.2.2.2.2.2.2.2.2.1, x.1.2.1, (4 : Int), ())).bind fun r7 =>
            if (r7.1.1.1 != (0 : Int)) then
              (F_impl_core_fail ((x.1.1, (x.1.2.1, (x.1.2.2.1, (x.1.2.2.2.1, (false, (x.1.2.2.2.2.2.1, (x.1.2.2.2.2.2.2.1, (x.1.2.2.2.2.2.2.2.1, (x.1.2.2.2.2.2.2.2.2.1, (x.1.2.2.2.2.2.2.2.2.2.1, (x.1.2.2.2.2.2.2.2.2.2.2.1, ((-1 : Int), ((-1 : Int), ()))))))))))))), (2 : Int), x.1.2.1, ())).bind fun r8 =>
              some ((), (r8.2.1, ()))
            else
              if 0 ≤ r7.1.1.2.1 ∧ r7.1.1.2.1 < ((x.1.2.2.2.2.2.2.2.2.2.2.1.length : Nat) : Int) then
                ((x.1.2.2.2.2.2.2.2.2.2.2.1)[(r7.1.1.2.1).toNat]?).bind fun y9 =>
                (F_impl_DecodeIns (y9, ())).bind fun r10 =>
                if (r10.1.1.1 != (0 : Int)) then
                  if 0 ≤ r7.1.1.2.1 ∧ r7.1.1.2.1 < ((x.1.2.2.2.2.2.2.2.2.2.2.1.length : Nat) : Int) then
                    ((x.1.2.2.2.2.2.2.2.2.2.2.1)[(r7.1.1.2.1).toNat]?).bind fun y11 =>
                    (F_impl_core_fail ((x.1.1, (x.1.2.1, (x.1.2.2.1, (x.1.2.2.2.1, (false, (x.1.2.2.2.2.2.1, (x.1.2.2.2.2.2.2.1, (x.1.2.2.2.2.2.2.2.1, (x.1.2.2.2.2.2.2.2.2.1, (x.1.2.2.2.2.2.2.2.2.2.1, (x.1.2.2.2.2.2.2.2.2.2.2.1, ((-1 : Int), ((-1 : Int), ()))))))))))))), (1 : Int), y11, ())).bind fun r12 =>
                    some ((), (r12.2.1, ()))
                  else none
                else
                  (F_impl_core_do ((x.1.1, (x.1.2.1, (x.1.2.2.1, (x.1.2.2.2.1, (false, (x.1.2.2.2.2.2.1, (x.1.2.2.2.2.2.2.1, (x.1.2.2.2.2.2.2.2.1, (x.1.2.2.2.2.2.2.2.2.1, (x.1.2.2.2.2.2.2.2.2.2.1, (x.1.2.2.2.2.2.2.2.2.2.2.1, ((-1 : Int), ((-1 : Int), ()))))))))))))), r10.1.1.2.1, ())).bind fun r13 =>
                  some ((), (r13.2.1, ()))
              else none
        else none
      else
        (F_impl_Hart_place ((x.1.1, (x.1.2.1, (x.1.2.2.1, (x.1.2.2.2.1, (x.1.2.2.2.2.1, (x.1.2.2.2.2.2.1, (x.1.2.2.2.2.2.2.1, (x.1.2.2.2.2.2.2.2.1, (x.1.2.2.2.2.2.2.2.2.1, ()))))))))), x.1.2.2.2.2.2.2.2.2.2.1, x.1.2.2.2.2.2.2.2.2.2.2.1, x.1.2.1, (4 : Int), ())).bind fun r14 =>
        if (r14.1.1.1 != (0 : Int)) then
          (F_impl_core_fail ((x.1.1, (x.1.2.1, (x.1.2.2.1, (x.1.2.2.2.1, (x.1.2.2.2.2.1, (x.1.2.2.2.2.2.1, (x.1.2.2.2.2.2.2.1, (x.1.2.2.2.2.2.2.2.1, (x.1.2.2.2.2.2.2.2.2.1, (x.1.2.2.2.2.2.2.2.2.2.1, (x.1.2.2.2.2.2.2.2.2.2.2.1, ((-1 : Int), ((-1 : Int), ()))))))))))))), (2 : Int), x.1.2.1, ())).bind fun r15 =>
          some ((), (r15.2.1, ()))
        else
          if 0 ≤ r14.1.1.2.1 ∧ r14.1.1.2.1 < ((x.1.2.2.2.2.2.2.2.2.2.2.1.length : Nat) : Int) then
            ((x.1.2.2.2.2.2.2.2.2.2.2.1)[(r14.1.1.2.1).toNat]?).bind fun y16 =>
            (F_impl_DecodeIns (y16, ())).bind fun r17 =>
            if (r17.1.1.1 != (0 : Int)) then
              if 0 ≤ r14.1.1.2.1 ∧ r14.1.1.2.1 < ((x.1.2.2.2.2.2.2.2.2.2.2.1.length : Nat) : Int) then
                ((x.1.2.2.2.2.2.2.2.2.2.2.1)[(r14.1.1.2.1).toNat]?).bind fun y18 =>
                (F_impl_core_fail ((x.1.1, (x.1.2.1, (x.1.2.2.1, (x.1.2.2.2.1, (x.1.2.2.2.2.1, (x.1.2.2.2.2.2.1, (x.1.2.2.2.2.2.2.1, (x.1.2.2.2.2.2.2.2.1, (x.1.2.2.2.2.2.2.2.2.1, (x.1.2.2.2.2.2.2.2.2.2.1, (x.1.2.2.2.2.2.2.2.2.2.2.1, ((-1 : Int), ((-1 : Int), ()))))))))))))), (1 : Int), y18, ())).bind fun r19 =>
                some ((), (r19.2.1, ()))
              else none
            else
              (F_impl_core_do ((x.1.1, (x.1.2.1, (x.1.2.2.1, (x.1.2.2.2.1, (x.1.2.2.2.2.1, (x.1.2.2.2.2.2.1, (x.1.2.2.2.2.2.2.1, (x.1.2.2.2.2.2.2.2.1, (x.1.2.2.2.2.2.2.2.2.1, (x.1.2.2.2.2.2.2.2.2.2.1, (x.1.2.2.2.2.2.2.2.2.2.2.1, ((-1 : Int), ((-1 : Int), ()))))))))))))), r17.1.1.2.1, ())).bind fun r20 =>
              some ((), (r20.2.1, ()))
          else none
abbrev C_impl_core_step : Con := ⟨P_impl_core_step, R_impl_core_step, F_impl_core_step, false⟩
abbrev G_impl_core_step : Env := [(80, C_impl_DecodeIns), (83, C_impl_Hart_due), (85, C_impl_Hart_place), (133, C_impl_Hart_pending), (167, C_impl_core_fail), (168, C_impl_core_do)]
theorem g_impl_core_step : EnvOk Tryz.prog G_impl_core_step := (env_cons s_impl_DecodeIns (env_cons s_impl_Hart_due (env_cons s_impl_Hart_place (env_cons s_impl_Hart_pending (env_cons s_impl_core_fail (env_cons s_impl_core_do env_nil))))))
theorem r_impl_core_step (x) : runFn T G_impl_core_step [] Tryz.f118 P_impl_core_step R_impl_core_step x = F_impl_core_step x := by kernel_rfl
theorem s_impl_core_step : CallsOk Tryz.prog 118 C_impl_core_step :=
  fn_calls (L := []) hT g_impl_core_step Tryz.f118 (by kernel_rfl) (by kernel_rfl) (by kernel_rfl) (plain_ok (by kernel_rfl)) r_impl_core_step
/-! impl.stepped -/
abbrev P_impl_stepped : List PK := [.val Y23, .val Y25, .val Y22, .val YI]
abbrev R_impl_stepped : List VK := [.g [.dat YI, .dat YI, .dat YI, .own 2 YI, .dat YI, .own 2 YI, .dat .bool, .dat .bool, .dat .bool, .dat YI, .own 2 YI, .own 2 YI, .own 2 YI]]
abbrev i_impl_stepped_4 : Shp := { slots := [(8, .s (.ptr 8 0)), (9, .s (.ptr 9 0)), (10, .s (.dat YI)), (11, .s (.dat YI)), (18, .s (.dat YI)), (19, .s (.dat YI))], boxes := [(8, [.dat YI, .dat YI, .dat YI, .own 2 YI, .dat YI, .own 2 YI, .dat .bool, .dat .bool, .dat .bool, .dat YI, .own 2 YI, .own 2 YI, .own 2 YI]), (9, [.own 2 YI, .dat YI, .own 2 YI, .dat .bool, .dat .bool, .dat .bool, .dat YI, .own 2 YI, .own 2 YI, .dat Y25, .own 2 YI, .dat YI, .dat YI])], rows := [] }
abbrev o_impl_stepped_4 : List (Ex × Shp) := [(.exit 0, { slots := [(8, .s (.ptr 8 0)), (9, .s (.ptr 9 0)), (10, .s (.dat YI)), (11, .s (.dat YI))], boxes := [(8, [.dat YI, .dat YI, .dat YI, .own 2 YI, .dat YI, .own 2 YI, .dat .bool, .dat .bool, .dat .bool, .dat YI, .own 2 YI, .own 2 YI, .own 2 YI]), (9, [.own 2 YI, .dat YI, .own 2 YI, .dat .bool, .dat .bool, .dat .bool, .dat YI, .own 2 YI, .own 2 YI, .dat Y25, .own 2 YI, .dat YI, .dat YI])], rows := [] })]
def l_impl_stepped_4 (rec : i_impl_stepped_4.den → Option (denO o_impl_stepped_4)) (u4 : i_impl_stepped_4.den) : Option (denO o_impl_stepped_4) :=
  if (ltI u4.1.2.2.2.2.2.1 u4.1.2.2.2.2.1) then
    (F_impl_core_step (u4.2.1.2.1, ())).bind fun r4 =>
    if (leI (0 : Int) r4.2.1.2.2.2.2.2.2.2.2.2.2.2.1) then
      if (leI (0 : Int) r4.2.1.2.2.2.2.2.2.2.2.2.2.2.2.1) then
        let v5 := (IntKind.i64.wrap (u4.1.2.2.2.2.2.1 + (1 : Int)))
        rec (((), ((), (r4.2.1.2.2.2.2.2.2.2.2.2.2.2.1, (r4.2.1.2.2.2.2.2.2.2.2.2.2.2.2.1, (u4.1.2.2.2.2.1, (v5, ())))))), ((u4.2.1.1, (r4.2.1, ())), ()))
      else
        let v6 := (IntKind.i64.wrap (u4.1.2.2.2.2.2.1 + (1 : Int)))
        rec (((), ((), (r4.2.1.2.2.2.2.2.2.2.2.2.2.2.1, (u4.1.2.2.2.1, (u4.1.2.2.2.2.1, (v6, ())))))), ((u4.2.1.1, (r4.2.1, ())), ()))
    else
      if (leI (0 : Int) r4.2.1.2.2.2.2.2.2.2.2.2.2.2.2.1) then
        let v7 := (IntKind.i64.wrap (u4.1.2.2.2.2.2.1 + (1 : Int)))
        rec (((), ((), (u4.1.2.2.1, (r4.2.1.2.2.2.2.2.2.2.2.2.2.2.2.1, (u4.1.2.2.2.2.1, (v7, ())))))), ((u4.2.1.1, (r4.2.1, ())), ()))
      else
        let v8 := (IntKind.i64.wrap (u4.1.2.2.2.2.2.1 + (1 : Int)))
        rec (((), ((), (u4.1.2.2.1, (u4.1.2.2.2.1, (u4.1.2.2.2.2.1, (v8, ())))))), ((u4.2.1.1, (r4.2.1, ())), ()))
  else
    some (.inl (((), ((), (u4.1.2.2.1, (u4.1.2.2.2.1, ())))), ((u4.2.1.1, (u4.2.1.2.1, ())), ())))
def L_impl_stepped_4 (x : i_impl_stepped_4.den) : Option (denO o_impl_stepped_4) := iterF l_impl_stepped_4 lots x
def F_impl_stepped (x : denP P_impl_stepped) : Option (denV R_impl_stepped × denQ P_impl_stepped) :=
  (F_impl_Hart_own (x.1, ())).bind fun r1 =>
  (F_slices_Clone_int64 (x.2.2.1, ())).bind fun r2 =>
  (L_impl_stepped_4 (((), ((), ((-1 : Int), ((-1 : Int), (x.2.2.2.1, ((0 : Int), ())))))), ((((0 : Int), ((0 : Int), ((0 : Int), (([] : List (den YI)), ((0 : Int), (([] : List (den YI)), (false, (false, (false, ((0 : Int), (([] : List (den YI)), (([] : List (den YI)), (([] : List (den YI)), ()))))))))))))), ((r1.1.1.1, (r1.1.1.2.1, (r1.1.1.2.2.1, (r1.1.1.2.2.2.1, (r1.1.1.2.2.2.2.1, (r1.1.1.2.2.2.2.2.1, (r1.1.1.2.2.2.2.2.2.1, (r1.1.1.2.2.2.2.2.2.2.1, (r1.1.1.2.2.2.2.2.2.2.2.1, (x.2.1, (r2.1.1, ((0 : Int), ((0 : Int), ()))))))))))))), ())), ()))).bind fun z9 =>
  match z9 with
  | .inl x10 =>
    some ((((0 : Int), (x10.1.2.2.1, (x10.1.2.2.2.1, (x10.2.1.2.1.1, (x10.2.1.2.1.2.1, (x10.2.1.2.1.2.2.1, (x10.2.1.2.1.2.2.2.1, (x10.2.1.2.1.2.2.2.2.1, (x10.2.1.2.1.2.2.2.2.2.1, (x10.2.1.2.1.2.2.2.2.2.2.1, (x10.2.1.2.1.2.2.2.2.2.2.2.1, (x10.2.1.2.1.2.2.2.2.2.2.2.2.1, (x10.2.1.2.1.2.2.2.2.2.2.2.2.2.2.1, ()))))))))))))), ()), ())
  | .inr z9_ =>
    none
abbrev C_impl_stepped : Con := ⟨P_impl_stepped, R_impl_stepped, F_impl_stepped, false⟩
abbrev G_impl_stepped : Env := [(100, C_impl_Hart_own), (117, C_slices_Clone_int64), (118, C_impl_core_step)]
theorem g_impl_stepped : EnvOk Tryz.prog G_impl_stepped := (env_cons s_impl_Hart_own (env_cons s_slices_Clone_int64 (env_cons s_impl_core_step env_nil)))
abbrev c_impl_stepped_4 : Cut := ⟨i_impl_stepped_4, o_impl_stepped_4, fun x => iterF l_impl_stepped_4 lots x⟩
theorem t_impl_stepped_4 (rec x) : run T G_impl_stepped [] (nav Tryz.f68 [1, 1, 1, 0, 1, 0, 0]) (mk 40 i_impl_stepped_4 x) (loopK i_impl_stepped_4 o_impl_stepped_4 rec) = l_impl_stepped_4 rec x := by kernel_rfl
theorem k_impl_stepped_4 : CutOk Tryz.prog 40 (.loop (nav Tryz.f68 [1, 1, 1, 0, 1, 0, 0])) c_impl_stepped_4 :=
  loop_cut (L := []) hT g_impl_stepped t_impl_stepped_4 (plain_ok (by kernel_rfl)) _
theorem r_impl_stepped (x) : runFn T G_impl_stepped [(4, c_impl_stepped_4)] Tryz.f68 P_impl_stepped R_impl_stepped x = F_impl_stepped x := by kernel_rfl
theorem s_impl_stepped : CallsOk Tryz.prog 68 C_impl_stepped :=
  fn_calls (L := [(4, c_impl_stepped_4)]) hT g_impl_stepped Tryz.f68 (by kernel_rfl) (by kernel_rfl) (by kernel_rfl) (seq_ok (plain_ok (by kernel_rfl)) (seq_ok (plain_ok (by kernel_rfl)) (seq_ok (plain_ok (by kernel_rfl)) (seq_ok (seq_ok (plain_ok (by kernel_rfl)) (block_ok (by kernel_rfl) (loop_ok (by kernel_rfl) k_impl_stepped_4))) (plain_ok (by kernel_rfl)))))) r_impl_stepped
/-! impl.StepMany -/
abbrev P_impl_StepMany : List PK := [.val Y23, .val Y25, .val Y22, .val YI]
abbrev R_impl_StepMany : List VK := [.g [.dat YI, .dat YI, .dat YI, .own 2 YI, .dat YI, .own 2 YI, .dat .bool, .dat .bool, .dat .bool, .dat YI, .own 2 YI, .own 2 YI, .own 2 YI]]
def F_impl_StepMany (x : denP P_impl_StepMany) : Option (denV R_impl_StepMany × denQ P_impl_StepMany) :=
  (F_impl_stepFault (x.1, x.2.1, x.2.2.1, ())).bind fun r1 =>
  if (r1.1.1 == (0 : Int)) = true then
    (F_impl_within (x.2.2.2.1, (0 : Int), (500 : Int), ())).bind fun r2 =>
    if (!r2.1.1) then
      some ((((3 : Int), ((0 : Int), ((0 : Int), (([] : List (den YI)), ((0 : Int), (([] : List (den YI)), (false, (false, (false, ((0 : Int), (([] : List (den YI)), (([] : List (den YI)), (([] : List (den YI)), ()))))))))))))), ()), ())
    else
      if (r1.1.1 != (0 : Int)) then
        some (((r1.1.1, ((0 : Int), ((0 : Int), (([] : List (den YI)), ((0 : Int), (([] : List (den YI)), (false, (false, (false, ((0 : Int), (([] : List (den YI)), (([] : List (den YI)), (([] : List (den YI)), ()))))))))))))), ()), ())
      else
        (F_impl_stepped (x.1, x.2.1, x.2.2.1, x.2.2.2.1, ())).bind fun r3 =>
        some ((r3.1.1, ()), ())
  else
    if (r1.1.1 != (0 : Int)) then
      some (((r1.1.1, ((0 : Int), ((0 : Int), (([] : List (den YI)), ((0 : Int), (([] : List (den YI)), (false, (false, (false, ((0 : Int), (([] : List (den YI)), (([] : List (den YI)), (([] : List (den YI)), ()))))))))))))), ()), ())
    else
      (F_impl_stepped (x.1, x.2.1, x.2.2.1, x.2.2.2.1, ())).bind fun r4 =>
      some ((r4.1.1, ()), ())
abbrev C_impl_StepMany : Con := ⟨P_impl_StepMany, R_impl_StepMany, F_impl_StepMany, false⟩
abbrev G_impl_StepMany : Env := [(66, C_impl_stepFault), (67, C_impl_within), (68, C_impl_stepped)]
theorem g_impl_StepMany : EnvOk Tryz.prog G_impl_StepMany := (env_cons s_impl_stepFault (env_cons s_impl_within (env_cons s_impl_stepped env_nil)))
theorem r_impl_StepMany (x) : runFn T G_impl_StepMany [] Tryz.f27 P_impl_StepMany R_impl_StepMany x = F_impl_StepMany x := by kernel_rfl
theorem s_impl_StepMany : CallsOk Tryz.prog 27 C_impl_StepMany :=
  fn_calls (L := []) hT g_impl_StepMany Tryz.f27 (by kernel_rfl) (by kernel_rfl) (by kernel_rfl) (plain_ok (by kernel_rfl)) r_impl_StepMany
/-! impl.StepHart -/
abbrev P_impl_StepHart : List PK := [.val Y23, .val Y25, .val Y22]
abbrev R_impl_StepHart : List VK := [.g [.dat YI, .dat YI, .dat YI, .own 2 YI, .dat YI, .own 2 YI, .dat .bool, .dat .bool, .dat .bool, .dat YI, .own 2 YI, .own 2 YI, .own 2 YI]]
def F_impl_StepHart (x : denP P_impl_StepHart) : Option (denV R_impl_StepHart × denQ P_impl_StepHart) :=
  (F_impl_StepMany (x.1, x.2.1, x.2.2.1, (1 : Int), ())).bind fun r1 =>
  some ((r1.1.1, ()), ())
abbrev C_impl_StepHart : Con := ⟨P_impl_StepHart, R_impl_StepHart, F_impl_StepHart, false⟩
abbrev G_impl_StepHart : Env := [(27, C_impl_StepMany)]
theorem g_impl_StepHart : EnvOk Tryz.prog G_impl_StepHart := (env_cons s_impl_StepMany env_nil)
theorem r_impl_StepHart (x) : runFn T G_impl_StepHart [] Tryz.f16 P_impl_StepHart R_impl_StepHart x = F_impl_StepHart x := by kernel_rfl
theorem s_impl_StepHart : CallsOk Tryz.prog 16 C_impl_StepHart :=
  fn_calls (L := []) hT g_impl_StepHart Tryz.f16 (by kernel_rfl) (by kernel_rfl) (by kernel_rfl) (plain_ok (by kernel_rfl)) r_impl_StepHart
/-! laws.eqInt64S -/
abbrev P_laws_eqInt64S : List PK := [.val Y22, .val Y22]
abbrev R_laws_eqInt64S : List VK := [.s (.dat .bool)]
abbrev i_laws_eqInt64S_4 : Shp := { slots := [(0, .s (.dat Y22)), (1, .s (.dat Y22)), (5, .s (.dat YI))], boxes := [], rows := [] }
abbrev o_laws_eqInt64S_4 : List (Ex × Shp) := [(.exit 0, { slots := [], boxes := [], rows := [] }), (.ret, { slots := [(4, .s (.dat .bool))], boxes := [], rows := [] })]
def l_laws_eqInt64S_4 (rec : i_laws_eqInt64S_4.den → Option (denO o_laws_eqInt64S_4)) (u4 : i_laws_eqInt64S_4.den) : Option (denO o_laws_eqInt64S_4) :=
  let v5 := ((u4.1.1.length : Nat) : Int)
  if (ltI u4.1.2.2.1 v5) then
    if 0 ≤ u4.1.2.2.1 then
      ((u4.1.1)[(u4.1.2.2.1).toNat]?).bind fun y6 =>
      if 0 ≤ u4.1.2.2.1 then
        ((u4.1.2.1)[(u4.1.2.2.1).toNat]?).bind fun y7 =>
        if (y6 != y7) then
          some (.inr (.inl ((false, ()), ((), ()))))
        else
          let v8 := (IntKind.i64.wrap (u4.1.2.2.1 + (1 : Int)))
          rec ((u4.1.1, (u4.1.2.1, (v8, ()))), ((), ()))
      else none
    else none
  else
    some (.inl ((), ((), ())))
def L_laws_eqInt64S_4 (x : i_laws_eqInt64S_4.den) : Option (denO o_laws_eqInt64S_4) := iterF l_laws_eqInt64S_4 lots x
def F_laws_eqInt64S (x : denP P_laws_eqInt64S) : Option (denV R_laws_eqInt64S × denQ P_laws_eqInt64S) :=
  let v1 := ((x.1.length : Nat) : Int)
  let v2 := ((x.2.1.length : Nat) : Int)
  if (v1 != v2) then
    some ((false, ()), ())
  else
    (L_laws_eqInt64S_4 ((x.1, (x.2.1, ((0 : Int), ()))), ((), ()))).bind fun z9 =>
    match z9 with
    | .inl x10 =>
      some ((true, ()), ())
    | .inr z9_ =>
      match z9_ with
      | .inl x11 =>
        some ((x11.1.1, ()), ())
      | .inr z9__ =>
        none
abbrev C_laws_eqInt64S : Con := ⟨P_laws_eqInt64S, R_laws_eqInt64S, F_laws_eqInt64S, false⟩
abbrev G_laws_eqInt64S : Env := []
theorem g_laws_eqInt64S : EnvOk Tryz.prog G_laws_eqInt64S := env_nil
abbrev c_laws_eqInt64S_4 : Cut := ⟨i_laws_eqInt64S_4, o_laws_eqInt64S_4, fun x => iterF l_laws_eqInt64S_4 lots x⟩
theorem t_laws_eqInt64S_4 (rec x) : run T G_laws_eqInt64S [] (nav Tryz.f20 [1, 1, 0, 1, 0, 0]) (mk 26 i_laws_eqInt64S_4 x) (loopK i_laws_eqInt64S_4 o_laws_eqInt64S_4 rec) = l_laws_eqInt64S_4 rec x := by kernel_rfl
theorem k_laws_eqInt64S_4 : CutOk Tryz.prog 26 (.loop (nav Tryz.f20 [1, 1, 0, 1, 0, 0])) c_laws_eqInt64S_4 :=
  loop_cut (L := []) hT g_laws_eqInt64S t_laws_eqInt64S_4 (plain_ok (by kernel_rfl)) _
theorem r_laws_eqInt64S (x) : runFn T G_laws_eqInt64S [(4, c_laws_eqInt64S_4)] Tryz.f20 P_laws_eqInt64S R_laws_eqInt64S x = F_laws_eqInt64S x := by kernel_rfl
theorem s_laws_eqInt64S : CallsOk Tryz.prog 20 C_laws_eqInt64S :=
  fn_calls (L := [(4, c_laws_eqInt64S_4)]) hT g_laws_eqInt64S Tryz.f20 (by kernel_rfl) (by kernel_rfl) (by kernel_rfl) (seq_ok (plain_ok (by kernel_rfl)) (seq_ok (plain_ok (by kernel_rfl)) (seq_ok (seq_ok (plain_ok (by kernel_rfl)) (block_ok (by kernel_rfl) (loop_ok (by kernel_rfl) k_laws_eqInt64S_4))) (plain_ok (by kernel_rfl))))) r_laws_eqInt64S
/-! laws.eqHart -/
abbrev P_laws_eqHart : List PK := [.val Y23, .val Y23]
abbrev R_laws_eqHart : List VK := [.s (.dat .bool)]
def F_laws_eqHart (x : denP P_laws_eqHart) : Option (denV R_laws_eqHart × denQ P_laws_eqHart) :=
  (F_laws_eqInt64S (x.1.1, x.2.1.1, ())).bind fun r1 =>
  if (!r1.1.1) then
    some ((false, ()), ())
  else
    if (x.1.2.1 != x.2.1.2.1) then
      some ((false, ()), ())
    else
      (F_laws_eqInt64S (x.1.2.2.1, x.2.1.2.2.1, ())).bind fun r2 =>
      if (!r2.1.1) then
        some ((false, ()), ())
      else
        if (!(x.1.2.2.2.1 == x.2.1.2.2.2.1)) then
          some ((false, ()), ())
        else
          if (!(x.1.2.2.2.2.1 == x.2.1.2.2.2.2.1)) then
            some ((false, ()), ())
          else
            if (!(x.1.2.2.2.2.2.1 == x.2.1.2.2.2.2.2.1)) then
              some ((false, ()), ())
            else
              if (x.1.2.2.2.2.2.2.1 != x.2.1.2.2.2.2.2.2.1) then
                some ((false, ()), ())
              else
                (F_laws_eqInt64S (x.1.2.2.2.2.2.2.2.1, x.2.1.2.2.2.2.2.2.2.1, ())).bind fun r3 =>
                if (!r3.1.1) then
                  some ((false, ()), ())
                else
                  (F_laws_eqInt64S (x.1.2.2.2.2.2.2.2.2.1, x.2.1.2.2.2.2.2.2.2.2.1, ())).bind fun r4 =>
                  if (!r4.1.1) then
                    some ((false, ()), ())
                  else
                    some ((true, ()), ())
abbrev C_laws_eqHart : Con := ⟨P_laws_eqHart, R_laws_eqHart, F_laws_eqHart, false⟩
abbrev G_laws_eqHart : Env := [(20, C_laws_eqInt64S)]
theorem g_laws_eqHart : EnvOk Tryz.prog G_laws_eqHart := (env_cons s_laws_eqInt64S env_nil)
theorem r_laws_eqHart (x) : runFn T G_laws_eqHart [] Tryz.f18 P_laws_eqHart R_laws_eqHart x = F_laws_eqHart x := by kernel_rfl
theorem s_laws_eqHart : CallsOk Tryz.prog 18 C_laws_eqHart :=
  fn_calls (L := []) hT g_laws_eqHart Tryz.f18 (by kernel_rfl) (by kernel_rfl) (by kernel_rfl) (plain_ok (by kernel_rfl)) r_laws_eqHart
/-! laws.eqStepResult -/
abbrev P_laws_eqStepResult : List PK := [.val Y29, .val Y29]
abbrev R_laws_eqStepResult : List VK := [.s (.dat .bool)]
def F_laws_eqStepResult (x : denP P_laws_eqStepResult) : Option (denV R_laws_eqStepResult × denQ P_laws_eqStepResult) :=
  if (x.1.1 != x.2.1.1) then
    some ((false, ()), ())
  else
    if (x.1.2.1 != x.2.1.2.1) then
      some ((false, ()), ())
    else
      if (x.1.2.2.1 != x.2.1.2.2.1) then
        some ((false, ()), ())
      else
        (F_laws_eqHart (x.1.2.2.2.1, x.2.1.2.2.2.1, ())).bind fun r1 =>
        if (!r1.1.1) then
          some ((false, ()), ())
        else
          (F_laws_eqInt64S (x.1.2.2.2.2.1, x.2.1.2.2.2.2.1, ())).bind fun r2 =>
          if (!r2.1.1) then
            some ((false, ()), ())
          else
            some ((true, ()), ())
abbrev C_laws_eqStepResult : Con := ⟨P_laws_eqStepResult, R_laws_eqStepResult, F_laws_eqStepResult, false⟩
abbrev G_laws_eqStepResult : Env := [(18, C_laws_eqHart), (20, C_laws_eqInt64S)]
theorem g_laws_eqStepResult : EnvOk Tryz.prog G_laws_eqStepResult := (env_cons s_laws_eqHart (env_cons s_laws_eqInt64S env_nil))
theorem r_laws_eqStepResult (x) : runFn T G_laws_eqStepResult [] Tryz.f17 P_laws_eqStepResult R_laws_eqStepResult x = F_laws_eqStepResult x := by kernel_rfl
theorem s_laws_eqStepResult : CallsOk Tryz.prog 17 C_laws_eqStepResult :=
  fn_calls (L := []) hT g_laws_eqStepResult Tryz.f17 (by kernel_rfl) (by kernel_rfl) (by kernel_rfl) (plain_ok (by kernel_rfl)) r_laws_eqStepResult
/-! laws.eqPage -/
abbrev P_laws_eqPage : List PK := [.val Y67, .val Y67]
abbrev R_laws_eqPage : List VK := [.s (.dat .bool)]
def F_laws_eqPage (x : denP P_laws_eqPage) : Option (denV R_laws_eqPage × denQ P_laws_eqPage) :=
  if (x.1.1 != x.2.1.1) then
    some ((false, ()), ())
  else
    if (x.1.2.1 != x.2.1.2.1) then
      some ((false, ()), ())
    else
      some ((true, ()), ())
abbrev C_laws_eqPage : Con := ⟨P_laws_eqPage, R_laws_eqPage, F_laws_eqPage, false⟩
abbrev G_laws_eqPage : Env := []
theorem g_laws_eqPage : EnvOk Tryz.prog G_laws_eqPage := env_nil
theorem r_laws_eqPage (x) : runFn T G_laws_eqPage [] Tryz.f62 P_laws_eqPage R_laws_eqPage x = F_laws_eqPage x := by kernel_rfl
theorem s_laws_eqPage : CallsOk Tryz.prog 62 C_laws_eqPage :=
  fn_calls (L := []) hT g_laws_eqPage Tryz.f62 (by kernel_rfl) (by kernel_rfl) (by kernel_rfl) (plain_ok (by kernel_rfl)) r_laws_eqPage
/-! laws.eqPageS -/
abbrev P_laws_eqPageS : List PK := [.val Y25, .val Y25]
abbrev R_laws_eqPageS : List VK := [.s (.dat .bool)]
abbrev i_laws_eqPageS_4 : Shp := { slots := [(0, .s (.dat Y25)), (1, .s (.dat Y25)), (5, .s (.dat YI))], boxes := [], rows := [] }
abbrev o_laws_eqPageS_4 : List (Ex × Shp) := [(.exit 0, { slots := [], boxes := [], rows := [] }), (.ret, { slots := [(4, .s (.dat .bool))], boxes := [], rows := [] })]
def l_laws_eqPageS_4 (rec : i_laws_eqPageS_4.den → Option (denO o_laws_eqPageS_4)) (u4 : i_laws_eqPageS_4.den) : Option (denO o_laws_eqPageS_4) :=
  let v6 := ((u4.1.1.length : Nat) : Int)
  if (ltI u4.1.2.2.1 v6) then
    if 0 ≤ u4.1.2.2.1 then
      ((u4.1.1)[(u4.1.2.2.1).toNat]?).bind fun y7 =>
      if 0 ≤ u4.1.2.2.1 then
        ((u4.1.2.1)[(u4.1.2.2.1).toNat]?).bind fun y8 =>
        (F_laws_eqPage (y7, y8, ())).bind fun r9 =>
        if (!r9.1.1) then
          some (.inr (.inl ((false, ()), ((), ()))))
        else
          let v10 := (IntKind.i64.wrap (u4.1.2.2.1 + (1 : Int)))
          rec ((u4.1.1, (u4.1.2.1, (v10, ()))), ((), ()))
      else none
    else none
  else
    some (.inl ((), ((), ())))
def L_laws_eqPageS_4 (x : i_laws_eqPageS_4.den) : Option (denO o_laws_eqPageS_4) := iterF l_laws_eqPageS_4 lots x
def F_laws_eqPageS (x : denP P_laws_eqPageS) : Option (denV R_laws_eqPageS × denQ P_laws_eqPageS) :=
  let v1 := ((x.1.length : Nat) : Int)
  let v2 := ((x.2.1.length : Nat) : Int)
  if (v1 != v2) then
    some ((false, ()), ())
  else
    (L_laws_eqPageS_4 ((x.1, (x.2.1, ((0 : Int), ()))), ((), ()))).bind fun z11 =>
    match z11 with
    | .inl x12 =>
      some ((true, ()), ())
    | .inr z11_ =>
      match z11_ with
      | .inl x13 =>
        some ((x13.1.1, ()), ())
      | .inr z11__ =>
        none
abbrev C_laws_eqPageS : Con := ⟨P_laws_eqPageS, R_laws_eqPageS, F_laws_eqPageS, false⟩
abbrev G_laws_eqPageS : Env := [(62, C_laws_eqPage)]
theorem g_laws_eqPageS : EnvOk Tryz.prog G_laws_eqPageS := (env_cons s_laws_eqPage env_nil)
abbrev c_laws_eqPageS_4 : Cut := ⟨i_laws_eqPageS_4, o_laws_eqPageS_4, fun x => iterF l_laws_eqPageS_4 lots x⟩
theorem t_laws_eqPageS_4 (rec x) : run T G_laws_eqPageS [] (nav Tryz.f19 [1, 1, 0, 1, 0, 0]) (mk 27 i_laws_eqPageS_4 x) (loopK i_laws_eqPageS_4 o_laws_eqPageS_4 rec) = l_laws_eqPageS_4 rec x := by kernel_rfl
theorem k_laws_eqPageS_4 : CutOk Tryz.prog 27 (.loop (nav Tryz.f19 [1, 1, 0, 1, 0, 0])) c_laws_eqPageS_4 :=
  loop_cut (L := []) hT g_laws_eqPageS t_laws_eqPageS_4 (plain_ok (by kernel_rfl)) _
theorem r_laws_eqPageS (x) : runFn T G_laws_eqPageS [(4, c_laws_eqPageS_4)] Tryz.f19 P_laws_eqPageS R_laws_eqPageS x = F_laws_eqPageS x := by kernel_rfl
theorem s_laws_eqPageS : CallsOk Tryz.prog 19 C_laws_eqPageS :=
  fn_calls (L := [(4, c_laws_eqPageS_4)]) hT g_laws_eqPageS Tryz.f19 (by kernel_rfl) (by kernel_rfl) (by kernel_rfl) (seq_ok (plain_ok (by kernel_rfl)) (seq_ok (plain_ok (by kernel_rfl)) (seq_ok (seq_ok (plain_ok (by kernel_rfl)) (block_ok (by kernel_rfl) (loop_ok (by kernel_rfl) k_laws_eqPageS_4))) (plain_ok (by kernel_rfl))))) r_laws_eqPageS
/-! laws.markInt64S -/
abbrev P_laws_markInt64S : List PK := [.row 2 YI, .val YI]
abbrev R_laws_markInt64S : List VK := [.s (.dat YI)]
abbrev i_laws_markInt64S_2 : Shp := { slots := [(0, .s (.ref 9000100)), (1, .s (.dat YI)), (5, .s (.dat YI))], boxes := [], rows := [(9000100, 2, YI)] }
abbrev o_laws_markInt64S_2 : List (Ex × Shp) := [(.exit 0, { slots := [(1, .s (.dat YI))], boxes := [], rows := [(9000100, 2, YI)] })]
def l_laws_markInt64S_2 (rec : i_laws_markInt64S_2.den → Option (denO o_laws_markInt64S_2)) (u2 : i_laws_markInt64S_2.den) : Option (denO o_laws_markInt64S_2) :=
  let v2 := ((u2.2.2.1.length : Nat) : Int)
  if (ltI u2.1.2.2.1 v2) then
    if 0 ≤ u2.1.2.2.1 ∧ u2.1.2.2.1 < ((u2.2.2.1.length : Nat) : Int) then
      ((u2.2.2.1)[(u2.1.2.2.1).toNat]?).bind fun y3 =>
      let v4 := (u2.2.2.1.set (u2.1.2.2.1).toNat u2.1.2.1)
      let v5 := (IntKind.i64.wrap (u2.1.2.1 + (1 : Int)))
      let v6 := (IntKind.i64.wrap (u2.1.2.2.1 + (1 : Int)))
      rec (((), (v5, (v6, ()))), ((), (v4, ())))
    else none
  else
    some (.inl ((u2.1.2.1, ()), ((), (u2.2.2.1, ()))))
def L_laws_markInt64S_2 (x : i_laws_markInt64S_2.den) : Option (denO o_laws_markInt64S_2) := iterF l_laws_markInt64S_2 lots x
def F_laws_markInt64S (x : denP P_laws_markInt64S) : Option (denV R_laws_markInt64S × denQ P_laws_markInt64S) :=
  (L_laws_markInt64S_2 (((), (x.2.1, ((0 : Int), ()))), ((), (x.1, ())))).bind fun z7 =>
  match z7 with
  | .inl x8 =>
    if (x.1.length == x8.2.2.1.length && true) = true then
      some ((x8.1.1, ()), (x8.2.2.1, ()))
    else none
  | .inr z7_ =>
    none
abbrev C_laws_markInt64S : Con := ⟨P_laws_markInt64S, R_laws_markInt64S, F_laws_markInt64S, false⟩
abbrev G_laws_markInt64S : Env := []
theorem g_laws_markInt64S : EnvOk Tryz.prog G_laws_markInt64S := env_nil
abbrev c_laws_markInt64S_2 : Cut := ⟨i_laws_markInt64S_2, o_laws_markInt64S_2, fun x => iterF l_laws_markInt64S_2 lots x⟩
theorem t_laws_markInt64S_2 (rec x) : run T G_laws_markInt64S [] (nav Tryz.f23 [1, 0, 1, 0, 0]) (mk 19 i_laws_markInt64S_2 x) (loopK i_laws_markInt64S_2 o_laws_markInt64S_2 rec) = l_laws_markInt64S_2 rec x := by kernel_rfl
theorem k_laws_markInt64S_2 : CutOk Tryz.prog 19 (.loop (nav Tryz.f23 [1, 0, 1, 0, 0])) c_laws_markInt64S_2 :=
  loop_cut (L := []) hT g_laws_markInt64S t_laws_markInt64S_2 (plain_ok (by kernel_rfl)) _
theorem r_laws_markInt64S (x) : runFn T G_laws_markInt64S [(2, c_laws_markInt64S_2)] Tryz.f23 P_laws_markInt64S R_laws_markInt64S x = F_laws_markInt64S x := by kernel_rfl
theorem s_laws_markInt64S : CallsOk Tryz.prog 23 C_laws_markInt64S :=
  fn_calls (L := [(2, c_laws_markInt64S_2)]) hT g_laws_markInt64S Tryz.f23 (by kernel_rfl) (by kernel_rfl) (by kernel_rfl) (seq_ok (plain_ok (by kernel_rfl)) (seq_ok (seq_ok (plain_ok (by kernel_rfl)) (block_ok (by kernel_rfl) (loop_ok (by kernel_rfl) k_laws_markInt64S_2))) (plain_ok (by kernel_rfl)))) r_laws_markInt64S
/-! laws.markHart -/
abbrev P_laws_markHart : List PK := [.agg [.own 2 YI, .dat YI, .own 2 YI, .dat .bool, .dat .bool, .dat .bool, .dat YI, .own 2 YI, .own 2 YI], .val YI]
abbrev R_laws_markHart : List VK := [.s (.dat YI)]
def F_laws_markHart (x : denP P_laws_markHart) : Option (denV R_laws_markHart × denQ P_laws_markHart) :=
  (F_laws_markInt64S (x.1.1, x.2.1, ())).bind fun r1 =>
  if ((x.1.1.length == r1.2.1.length && true) && true) = true then
    (F_laws_markInt64S (x.1.2.2.1, r1.1.1, ())).bind fun r2 =>
    if ((x.1.2.2.1.length == r2.2.1.length && true) && true) = true then
      (F_laws_markInt64S (x.1.2.2.2.2.2.2.2.1, r2.1.1, ())).bind fun r3 =>
      if ((x.1.2.2.2.2.2.2.2.1.length == r3.2.1.length && true) && true) = true then
        (F_laws_markInt64S (x.1.2.2.2.2.2.2.2.2.1, r3.1.1, ())).bind fun r4 =>
        if ((x.1.2.2.2.2.2.2.2.2.1.length == r4.2.1.length && true) && true) = true then
          if ((x.1.1.length == r1.2.1.length && (x.1.2.2.1.length == r2.2.1.length && (x.1.2.2.2.2.2.2.2.1.length == r3.2.1.length && (x.1.2.2.2.2.2.2.2.2.1.length == r4.2.1.length && true)))) && true) = true then
            some ((r4.1.1, ()), ((r1.2.1, (r2.2.1, (r3.2.1, (r4.2.1, ())))), ()))
          else none
        else none
      else none
    else none
  else none
abbrev C_laws_markHart : Con := ⟨P_laws_markHart, R_laws_markHart, F_laws_markHart, false⟩
abbrev G_laws_markHart : Env := [(23, C_laws_markInt64S)]
theorem g_laws_markHart : EnvOk Tryz.prog G_laws_markHart := (env_cons s_laws_markInt64S env_nil)
theorem r_laws_markHart (x) : runFn T G_laws_markHart [] Tryz.f21 P_laws_markHart R_laws_markHart x = F_laws_markHart x := by kernel_rfl
theorem s_laws_markHart : CallsOk Tryz.prog 21 C_laws_markHart :=
  fn_calls (L := []) hT g_laws_markHart Tryz.f21 (by kernel_rfl) (by kernel_rfl) (by kernel_rfl) (plain_ok (by kernel_rfl)) r_laws_markHart
/-! laws.markPageS -/
abbrev P_laws_markPageS : List PK := [.row 68 Y67, .val YI]
abbrev R_laws_markPageS : List VK := [.s (.dat YI)]
abbrev i_laws_markPageS_2 : Shp := { slots := [(0, .s (.ref 9000100)), (1, .s (.dat YI)), (5, .s (.dat YI))], boxes := [], rows := [(9000100, 68, Y67)] }
abbrev o_laws_markPageS_2 : List (Ex × Shp) := [(.exit 0, { slots := [(1, .s (.dat YI))], boxes := [], rows := [(9000100, 68, Y67)] })]
def l_laws_markPageS_2 (rec : i_laws_markPageS_2.den → Option (denO o_laws_markPageS_2)) (u2 : i_laws_markPageS_2.den) : Option (denO o_laws_markPageS_2) :=
  let v3 := ((u2.2.2.1.length : Nat) : Int)
  if (ltI u2.1.2.2.1 v3) then
    if 0 ≤ u2.1.2.2.1 ∧ u2.1.2.2.1 < ((u2.2.2.1.length : Nat) : Int) then
      ((u2.2.2.1)[(u2.1.2.2.1).toNat]?).bind fun y4 =>
      let v5 := (u2.2.2.1.set (u2.1.2.2.1).toNat (u2.1.2.1, y4.2))
      let v6 := (IntKind.i64.wrap (u2.1.2.1 + (1 : Int)))
      if 0 ≤ u2.1.2.2.1 ∧ u2.1.2.2.1 < ((v5.length : Nat) : Int) then
        ((v5)[(u2.1.2.2.1).toNat]?).bind fun y7 =>
        let v8 := (v5.set (u2.1.2.2.1).toNat (y7.1, (v6, y7.2.2)))
        let v9 := (IntKind.i64.wrap (v6 + (1 : Int)))
        let v10 := (IntKind.i64.wrap (u2.1.2.2.1 + (1 : Int)))
        rec (((), (v9, (v10, ()))), ((), (v8, ())))
      else none
    else none
  else
    some (.inl ((u2.1.2.1, ()), ((), (u2.2.2.1, ()))))
def L_laws_markPageS_2 (x : i_laws_markPageS_2.den) : Option (denO o_laws_markPageS_2) := iterF l_laws_markPageS_2 lots x
def F_laws_markPageS (x : denP P_laws_markPageS) : Option (denV R_laws_markPageS × denQ P_laws_markPageS) :=
  (L_laws_markPageS_2 (((), (x.2.1, ((0 : Int), ()))), ((), (x.1, ())))).bind fun z11 =>
  match z11 with
  | .inl x12 =>
    if (x.1.length == x12.2.2.1.length && true) = true then
      some ((x12.1.1, ()), (x12.2.2.1, ()))
    else none
  | .inr z11_ =>
    none
abbrev C_laws_markPageS : Con := ⟨P_laws_markPageS, R_laws_markPageS, F_laws_markPageS, false⟩
abbrev G_laws_markPageS : Env := []
theorem g_laws_markPageS : EnvOk Tryz.prog G_laws_markPageS := env_nil
abbrev c_laws_markPageS_2 : Cut := ⟨i_laws_markPageS_2, o_laws_markPageS_2, fun x => iterF l_laws_markPageS_2 lots x⟩
theorem t_laws_markPageS_2 (rec x) : run T G_laws_markPageS [] (nav Tryz.f22 [1, 0, 1, 0, 0]) (mk 27 i_laws_markPageS_2 x) (loopK i_laws_markPageS_2 o_laws_markPageS_2 rec) = l_laws_markPageS_2 rec x := by kernel_rfl
theorem k_laws_markPageS_2 : CutOk Tryz.prog 27 (.loop (nav Tryz.f22 [1, 0, 1, 0, 0])) c_laws_markPageS_2 :=
  loop_cut (L := []) hT g_laws_markPageS t_laws_markPageS_2 (plain_ok (by kernel_rfl)) _
theorem r_laws_markPageS (x) : runFn T G_laws_markPageS [(2, c_laws_markPageS_2)] Tryz.f22 P_laws_markPageS R_laws_markPageS x = F_laws_markPageS x := by kernel_rfl
theorem s_laws_markPageS : CallsOk Tryz.prog 22 C_laws_markPageS :=
  fn_calls (L := [(2, c_laws_markPageS_2)]) hT g_laws_markPageS Tryz.f22 (by kernel_rfl) (by kernel_rfl) (by kernel_rfl) (seq_ok (plain_ok (by kernel_rfl)) (seq_ok (seq_ok (plain_ok (by kernel_rfl)) (block_ok (by kernel_rfl) (loop_ok (by kernel_rfl) k_laws_markPageS_2))) (plain_ok (by kernel_rfl)))) r_laws_markPageS
end Go.Proofs.YtkbcjonmodmfcaaGreatDoor
