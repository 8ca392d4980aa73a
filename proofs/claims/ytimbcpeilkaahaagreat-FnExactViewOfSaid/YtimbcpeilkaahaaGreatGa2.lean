/- The functions of the laws, each as a plain function of data (F), and that the program's text does what F says. Printed by a program (wip/tools/gen.py). -/
import Derived.Test.YtimbcpeilkaahaaGreatGa1
namespace Go.Proofs.YtimbcpeilkaahaaGreat
open Go Go.RowKit S Go.Proofs
set_option maxRecDepth 100000
set_option linter.unusedVariables false
/-! impl.PolicyFault -/
abbrev P_impl_PolicyFault : List PK := [.val Y26]
abbrev R_impl_PolicyFault : List VK := [.s (.dat YI)]
abbrev i_impl_PolicyFault_14 : Shp := { slots := [(1, .s (.ptr 1 0)), (43, .s (.dat Y24)), (44, .s (.dat YI)), (45, .s (.dat YI))], boxes := [(1, [.dat Y22, .dat Y23, .dat Y24, .dat Y24])], rows := [] }
abbrev o_impl_PolicyFault_14 : List (Ex × Shp) := [(.exit 2, { slots := [(1, .s (.ptr 1 0))], boxes := [(1, [.dat Y22, .dat Y23, .dat Y24, .dat Y24])], rows := [] }), (.ret, { slots := [(2, .s (.dat YI))], boxes := [], rows := [] })]
def l_impl_PolicyFault_14 (rec : i_impl_PolicyFault_14.den → Option (denO o_impl_PolicyFault_14)) (u14 : i_impl_PolicyFault_14.den) : Option (denO o_impl_PolicyFault_14) :=
  if (ltI u14.1.2.2.2.1 u14.1.2.2.1) then
    if 0 ≤ u14.1.2.2.2.1 then
      ((u14.1.2.1)[(u14.1.2.2.2.1).toNat]?).bind fun y16 =>
      if 0 ≤ (0 : Int) ∧ (0 : Int) ≤ u14.1.2.2.2.1 ∧ u14.1.2.2.2.1 ≤ ((u14.2.1.1.2.2.1.length : Nat) : Int) then
        let v17 := ((u14.2.1.1.2.2.1.drop ((0 : Int)).toNat).take ((u14.1.2.2.2.1).toNat - ((0 : Int)).toNat))
        (F_impl_Policy_bellFault ((u14.2.1.1.1, (u14.2.1.1.2.1, (u14.2.1.1.2.2.1, (u14.2.1.1.2.2.2.1, ())))), y16, v17, ())).bind fun r18 =>
        if (r18.1.1 != (0 : Int)) then
          some (.inr (.inl ((r18.1.1, ()), ((), ()))))
        else
          let v19 := (IntKind.i64.wrap (u14.1.2.2.2.1 + (1 : Int)))
          rec (((), (u14.1.2.1, (u14.1.2.2.1, (v19, ())))), (((u14.2.1.1.1, (u14.2.1.1.2.1, (u14.2.1.1.2.2.1, (u14.2.1.1.2.2.2.1, ())))), ()), ()))
      else none
    else none
  else
    some (.inl (((), ()), (((u14.2.1.1.1, (u14.2.1.1.2.1, (u14.2.1.1.2.2.1, (u14.2.1.1.2.2.2.1, ())))), ()), ())))
def L_impl_PolicyFault_14 (x : i_impl_PolicyFault_14.den) : Option (denO o_impl_PolicyFault_14) := iterF l_impl_PolicyFault_14 lots x
abbrev i_impl_PolicyFault_7 : Shp := { slots := [(1, .s (.ptr 1 0)), (25, .s (.dat Y23)), (26, .s (.dat YI)), (27, .s (.dat YI))], boxes := [(1, [.dat Y22, .dat Y23, .dat Y24, .dat Y24])], rows := [] }
abbrev o_impl_PolicyFault_7 : List (Ex × Shp) := [(.exit 0, { slots := [(1, .s (.ptr 1 0))], boxes := [(1, [.dat Y22, .dat Y23, .dat Y24, .dat Y24])], rows := [] }), (.ret, { slots := [(2, .s (.dat YI))], boxes := [], rows := [] })]
def l_impl_PolicyFault_7 (rec : i_impl_PolicyFault_7.den → Option (denO o_impl_PolicyFault_7)) (u7 : i_impl_PolicyFault_7.den) : Option (denO o_impl_PolicyFault_7) :=
  if (ltI u7.1.2.2.2.1 u7.1.2.2.1) then
    if 0 ≤ u7.1.2.2.2.1 then
      ((u7.1.2.1)[(u7.1.2.2.2.1).toNat]?).bind fun y7 =>
      if 0 ≤ (0 : Int) ∧ (0 : Int) ≤ u7.1.2.2.2.1 ∧ u7.1.2.2.2.1 ≤ ((u7.2.1.1.2.1.length : Nat) : Int) then
        let v8 := ((u7.2.1.1.2.1.drop ((0 : Int)).toNat).take ((u7.1.2.2.2.1).toNat - ((0 : Int)).toNat))
        (F_impl_Policy_laneFault ((u7.2.1.1.1, (u7.2.1.1.2.1, (u7.2.1.1.2.2.1, (u7.2.1.1.2.2.2.1, ())))), y7, v8, ())).bind fun r9 =>
        if (r9.1.1 != (0 : Int)) then
          some (.inr (.inl ((r9.1.1, ()), ((), ()))))
        else
          let v10 := (IntKind.i64.wrap (u7.1.2.2.2.1 + (1 : Int)))
          rec (((), (u7.1.2.1, (u7.1.2.2.1, (v10, ())))), (((u7.2.1.1.1, (u7.2.1.1.2.1, (u7.2.1.1.2.2.1, (u7.2.1.1.2.2.2.1, ())))), ()), ()))
      else none
    else none
  else
    some (.inl (((), ()), (((u7.2.1.1.1, (u7.2.1.1.2.1, (u7.2.1.1.2.2.1, (u7.2.1.1.2.2.2.1, ())))), ()), ())))
def L_impl_PolicyFault_7 (x : i_impl_PolicyFault_7.den) : Option (denO o_impl_PolicyFault_7) := iterF l_impl_PolicyFault_7 lots x
def F_impl_PolicyFault (x : denP P_impl_PolicyFault) : Option (denV R_impl_PolicyFault × denQ P_impl_PolicyFault) :=
  (F_impl_Policy_ownFault (x.1, ())).bind fun r1 =>
  if (r1.1.1 != (0 : Int)) then
    some ((r1.1.1, ()), ())
  else
    let v2 := ((x.1.2.1.length : Nat) : Int)
    if (ltI (4 : Int) v2) = false then
      let v3 := ((x.1.2.2.1.length : Nat) : Int)
      if (ltI (4 : Int) v3) then
        some (((2 : Int), ()), ())
      else
        let v4 := ((x.1.2.1.length : Nat) : Int)
        (L_impl_PolicyFault_7 (((), (x.1.2.1, (v4, ((0 : Int), ())))), (((x.1.1, (x.1.2.1, (x.1.2.2.1, (x.1.2.2.2.1, ())))), ()), ()))).bind fun z11 =>
        match z11 with
        | .inl x12 =>
          let v13 := ((x12.2.1.1.2.2.1.length : Nat) : Int)
          (L_impl_PolicyFault_14 (((), (x12.2.1.1.2.2.1, (v13, ((0 : Int), ())))), (((x12.2.1.1.1, (x12.2.1.1.2.1, (x12.2.1.1.2.2.1, (x12.2.1.1.2.2.2.1, ())))), ()), ()))).bind fun z20 =>
          match z20 with
          | .inl x21 =>
            (F_impl_Policy_planFault ((x21.2.1.1.1, (x21.2.1.1.2.1, (x21.2.1.1.2.2.1, (x21.2.1.1.2.2.2.1, ())))), ())).bind fun r22 =>
            some ((r22.1.1, ()), ())
          | .inr z20_ =>
            match z20_ with
            | .inl x23 =>
              some ((x23.1.1, ()), ())
            | .inr z20__ =>
              none
        | .inr z11_ =>
          match z11_ with
          | .inl x24 =>
            some ((x24.1.1, ()), ())
          | .inr z11__ =>
            none
    else
      some (((2 : Int), ()), ())
abbrev C_impl_PolicyFault : Con := ⟨P_impl_PolicyFault, R_impl_PolicyFault, F_impl_PolicyFault, false⟩
abbrev G_impl_PolicyFault : Env := [(153, C_impl_Policy_ownFault), (154, C_impl_Policy_laneFault), (155, C_impl_Policy_bellFault), (156, C_impl_Policy_planFault)]
theorem g_impl_PolicyFault : EnvOk Tryz.prog G_impl_PolicyFault := (env_cons s_impl_Policy_ownFault (env_cons s_impl_Policy_laneFault (env_cons s_impl_Policy_bellFault (env_cons s_impl_Policy_planFault env_nil))))
abbrev c_impl_PolicyFault_14 : Cut := ⟨i_impl_PolicyFault_14, o_impl_PolicyFault_14, fun x => iterF l_impl_PolicyFault_14 lots x⟩
theorem t_impl_PolicyFault_14 (rec x) : run T G_impl_PolicyFault [] (nav Tryz.f113 [1, 1, 1, 1, 0, 1, 0, 0]) (mk 61 i_impl_PolicyFault_14 x) (loopK i_impl_PolicyFault_14 o_impl_PolicyFault_14 rec) = l_impl_PolicyFault_14 rec x := by kernel_rfl
theorem k_impl_PolicyFault_14 : CutOk Tryz.prog 61 (.loop (nav Tryz.f113 [1, 1, 1, 1, 0, 1, 0, 0])) c_impl_PolicyFault_14 :=
  loop_cut (L := []) hT g_impl_PolicyFault t_impl_PolicyFault_14 (plain_ok (by kernel_rfl)) _
abbrev c_impl_PolicyFault_7 : Cut := ⟨i_impl_PolicyFault_7, o_impl_PolicyFault_7, fun x => iterF l_impl_PolicyFault_7 lots x⟩
theorem t_impl_PolicyFault_7 (rec x) : run T G_impl_PolicyFault [] (nav Tryz.f113 [1, 1, 1, 0, 1, 0, 0]) (mk 61 i_impl_PolicyFault_7 x) (loopK i_impl_PolicyFault_7 o_impl_PolicyFault_7 rec) = l_impl_PolicyFault_7 rec x := by kernel_rfl
theorem k_impl_PolicyFault_7 : CutOk Tryz.prog 61 (.loop (nav Tryz.f113 [1, 1, 1, 0, 1, 0, 0])) c_impl_PolicyFault_7 :=
  loop_cut (L := []) hT g_impl_PolicyFault t_impl_PolicyFault_7 (plain_ok (by kernel_rfl)) _
theorem r_impl_PolicyFault (x) : runFn T G_impl_PolicyFault [(14, c_impl_PolicyFault_14), (7, c_impl_PolicyFault_7)] Tryz.f113 P_impl_PolicyFault R_impl_PolicyFault x = F_impl_PolicyFault x := by kernel_rfl
theorem s_impl_PolicyFault : CallsOk Tryz.prog 113 C_impl_PolicyFault :=
  fn_calls (L := [(14, c_impl_PolicyFault_14), (7, c_impl_PolicyFault_7)]) hT g_impl_PolicyFault Tryz.f113 (by kernel_rfl) (by kernel_rfl) (by kernel_rfl) (seq_ok (plain_ok (by kernel_rfl)) (seq_ok (plain_ok (by kernel_rfl)) (seq_ok (plain_ok (by kernel_rfl)) (seq_ok (seq_ok (plain_ok (by kernel_rfl)) (block_ok (by kernel_rfl) (loop_ok (by kernel_rfl) k_impl_PolicyFault_7))) (seq_ok (seq_ok (plain_ok (by kernel_rfl)) (block_ok (by kernel_rfl) (loop_ok (by kernel_rfl) k_impl_PolicyFault_14))) (plain_ok (by kernel_rfl))))))) r_impl_PolicyFault
/-! impl.isWord -/
abbrev P_impl_isWord : List PK := [.val YI]
abbrev R_impl_isWord : List VK := [.s (.dat .bool)]
def F_impl_isWord (x : denP P_impl_isWord) : Option (denV R_impl_isWord × denQ P_impl_isWord) :=
  (F_impl_within (x.1, (0 : Int), (4294967295 : Int), ())).bind fun r1 =>
  some ((r1.1.1, ()), ())
abbrev C_impl_isWord : Con := ⟨P_impl_isWord, R_impl_isWord, F_impl_isWord, false⟩
abbrev G_impl_isWord : Env := [(116, C_impl_within)]
theorem g_impl_isWord : EnvOk Tryz.prog G_impl_isWord := (env_cons s_impl_within env_nil)
theorem r_impl_isWord (x) : runFn T G_impl_isWord [] Tryz.f157 P_impl_isWord R_impl_isWord x = F_impl_isWord x := by kernel_rfl
theorem s_impl_isWord : CallsOk Tryz.prog 157 C_impl_isWord :=
  fn_calls (L := []) hT g_impl_isWord Tryz.f157 (by kernel_rfl) (by kernel_rfl) (by kernel_rfl) (plain_ok (by kernel_rfl)) r_impl_isWord
/-! impl.areWords.1 -/
abbrev P_impl_areWords_1 : List PK := [.val YI]
abbrev R_impl_areWords_1 : List VK := [.s (.dat .bool)]
def F_impl_areWords_1 (x : denP P_impl_areWords_1) : Option (denV R_impl_areWords_1 × denQ P_impl_areWords_1) :=
  (F_impl_isWord (x.1, ())).bind fun r1 =>
  some (((!r1.1.1), ()), ())
abbrev C_impl_areWords_1 : Con := ⟨P_impl_areWords_1, R_impl_areWords_1, F_impl_areWords_1, false⟩
abbrev G_impl_areWords_1 : Env := [(157, C_impl_isWord)]
theorem g_impl_areWords_1 : EnvOk Tryz.prog G_impl_areWords_1 := (env_cons s_impl_isWord env_nil)
theorem r_impl_areWords_1 (x) : runFn T G_impl_areWords_1 [] Tryz.f161 P_impl_areWords_1 R_impl_areWords_1 x = F_impl_areWords_1 x := by kernel_rfl
theorem s_impl_areWords_1 : CallsOk Tryz.prog 161 C_impl_areWords_1 :=
  fn_calls (L := []) hT g_impl_areWords_1 Tryz.f161 (by kernel_rfl) (by kernel_rfl) (by kernel_rfl) (plain_ok (by kernel_rfl)) r_impl_areWords_1
/-! slices.IndexFunc[int64,int64] -/
abbrev P_slices_IndexFunc_int64_of_impl_areWords_1 : List PK := [.val Y28, .fn 161 []]
abbrev R_slices_IndexFunc_int64_of_impl_areWords_1 : List VK := [.s (.dat YI)]
abbrev i_slices_IndexFunc_int64_of_impl_areWords_1_2 : Shp := { slots := [(0, .s (.dat Y28)), (1, .s (.fn 161 [])), (7, .s (.dat YI)), (8, .s (.dat YI))], boxes := [], rows := [] }
abbrev o_slices_IndexFunc_int64_of_impl_areWords_1_2 : List (Ex × Shp) := [(.exit 0, { slots := [], boxes := [], rows := [] }), (.ret, { slots := [(4, .s (.dat YI))], boxes := [], rows := [] })]
def l_slices_IndexFunc_int64_of_impl_areWords_1_2 (rec : i_slices_IndexFunc_int64_of_impl_areWords_1_2.den → Option (denO o_slices_IndexFunc_int64_of_impl_areWords_1_2)) (u2 : i_slices_IndexFunc_int64_of_impl_areWords_1_2.den) : Option (denO o_slices_IndexFunc_int64_of_impl_areWords_1_2) :=
  if (ltI u2.1.2.2.2.1 u2.1.2.2.1) then
    if 0 ≤ u2.1.2.2.2.1 then
      ((u2.1.1)[(u2.1.2.2.2.1).toNat]?).bind fun y4 =>
      (F_impl_areWords_1 (y4, ())).bind fun r5 =>
      if r5.1.1 then
        some (.inr (.inl ((u2.1.2.2.2.1, ()), ((), ()))))
      else
        let v6 := (IntKind.i64.wrap (u2.1.2.2.2.1 + (1 : Int)))
        rec ((u2.1.1, ((), (u2.1.2.2.1, (v6, ())))), ((), ()))
    else none
  else
    some (.inl ((), ((), ())))
def L_slices_IndexFunc_int64_of_impl_areWords_1_2 (x : i_slices_IndexFunc_int64_of_impl_areWords_1_2.den) : Option (denO o_slices_IndexFunc_int64_of_impl_areWords_1_2) := iterF l_slices_IndexFunc_int64_of_impl_areWords_1_2 lots x
def F_slices_IndexFunc_int64_of_impl_areWords_1 (x : denP P_slices_IndexFunc_int64_of_impl_areWords_1) : Option (denV R_slices_IndexFunc_int64_of_impl_areWords_1 × denQ P_slices_IndexFunc_int64_of_impl_areWords_1) :=
  let v1 := ((x.1.length : Nat) : Int)
  (L_slices_IndexFunc_int64_of_impl_areWords_1_2 ((x.1, ((), (v1, ((0 : Int), ())))), ((), ()))).bind fun z7 =>
  match z7 with
  | .inl x8 =>
    some (((-1 : Int), ()), ())
  | .inr z7_ =>
    match z7_ with
    | .inl x9 =>
      some ((x9.1.1, ()), ())
    | .inr z7__ =>
      none
abbrev C_slices_IndexFunc_int64_of_impl_areWords_1 : Con := ⟨P_slices_IndexFunc_int64_of_impl_areWords_1, R_slices_IndexFunc_int64_of_impl_areWords_1, F_slices_IndexFunc_int64_of_impl_areWords_1, false⟩
abbrev G_slices_IndexFunc_int64_of_impl_areWords_1 : Env := [(161, C_impl_areWords_1)]
theorem g_slices_IndexFunc_int64_of_impl_areWords_1 : EnvOk Tryz.prog G_slices_IndexFunc_int64_of_impl_areWords_1 := (env_cons s_impl_areWords_1 env_nil)
abbrev c_slices_IndexFunc_int64_of_impl_areWords_1_2 : Cut := ⟨i_slices_IndexFunc_int64_of_impl_areWords_1_2, o_slices_IndexFunc_int64_of_impl_areWords_1_2, fun x => iterF l_slices_IndexFunc_int64_of_impl_areWords_1_2 lots x⟩
theorem t_slices_IndexFunc_int64_of_impl_areWords_1_2 (rec x) : run T G_slices_IndexFunc_int64_of_impl_areWords_1 [] (nav Tryz.f176 [1, 0, 1, 0, 0]) (mk 19 i_slices_IndexFunc_int64_of_impl_areWords_1_2 x) (loopK i_slices_IndexFunc_int64_of_impl_areWords_1_2 o_slices_IndexFunc_int64_of_impl_areWords_1_2 rec) = l_slices_IndexFunc_int64_of_impl_areWords_1_2 rec x := by kernel_rfl
theorem k_slices_IndexFunc_int64_of_impl_areWords_1_2 : CutOk Tryz.prog 19 (.loop (nav Tryz.f176 [1, 0, 1, 0, 0])) c_slices_IndexFunc_int64_of_impl_areWords_1_2 :=
  loop_cut (L := []) hT g_slices_IndexFunc_int64_of_impl_areWords_1 t_slices_IndexFunc_int64_of_impl_areWords_1_2 (plain_ok (by kernel_rfl)) _
theorem r_slices_IndexFunc_int64_of_impl_areWords_1 (x) : runFn T G_slices_IndexFunc_int64_of_impl_areWords_1 [(2, c_slices_IndexFunc_int64_of_impl_areWords_1_2)] Tryz.f176 P_slices_IndexFunc_int64_of_impl_areWords_1 R_slices_IndexFunc_int64_of_impl_areWords_1 x = F_slices_IndexFunc_int64_of_impl_areWords_1 x := by kernel_rfl
theorem s_slices_IndexFunc_int64_of_impl_areWords_1 : CallsOk Tryz.prog 176 C_slices_IndexFunc_int64_of_impl_areWords_1 :=
  fn_calls (L := [(2, c_slices_IndexFunc_int64_of_impl_areWords_1_2)]) hT g_slices_IndexFunc_int64_of_impl_areWords_1 Tryz.f176 (by kernel_rfl) (by kernel_rfl) (by kernel_rfl) (seq_ok (plain_ok (by kernel_rfl)) (seq_ok (seq_ok (plain_ok (by kernel_rfl)) (block_ok (by kernel_rfl) (loop_ok (by kernel_rfl) k_slices_IndexFunc_int64_of_impl_areWords_1_2))) (plain_ok (by kernel_rfl)))) r_slices_IndexFunc_int64_of_impl_areWords_1
/-! slices.ContainsFunc[int64,int64] -/
abbrev P_slices_ContainsFunc_int64_of_impl_areWords_1 : List PK := [.val Y28, .fn 161 []]
abbrev R_slices_ContainsFunc_int64_of_impl_areWords_1 : List VK := [.s (.dat .bool)]
def F_slices_ContainsFunc_int64_of_impl_areWords_1 (x : denP P_slices_ContainsFunc_int64_of_impl_areWords_1) : Option (denV R_slices_ContainsFunc_int64_of_impl_areWords_1 × denQ P_slices_ContainsFunc_int64_of_impl_areWords_1) :=
  (F_slices_IndexFunc_int64_of_impl_areWords_1 (x.1, (), ())).bind fun r1 =>
  some (((leI (0 : Int) r1.1.1), ()), ())
abbrev C_slices_ContainsFunc_int64_of_impl_areWords_1 : Con := ⟨P_slices_ContainsFunc_int64_of_impl_areWords_1, R_slices_ContainsFunc_int64_of_impl_areWords_1, F_slices_ContainsFunc_int64_of_impl_areWords_1, false⟩
abbrev G_slices_ContainsFunc_int64_of_impl_areWords_1 : Env := [(176, C_slices_IndexFunc_int64_of_impl_areWords_1)]
theorem g_slices_ContainsFunc_int64_of_impl_areWords_1 : EnvOk Tryz.prog G_slices_ContainsFunc_int64_of_impl_areWords_1 := (env_cons s_slices_IndexFunc_int64_of_impl_areWords_1 env_nil)
theorem r_slices_ContainsFunc_int64_of_impl_areWords_1 (x) : runFn T G_slices_ContainsFunc_int64_of_impl_areWords_1 [] Tryz.f160 P_slices_ContainsFunc_int64_of_impl_areWords_1 R_slices_ContainsFunc_int64_of_impl_areWords_1 x = F_slices_ContainsFunc_int64_of_impl_areWords_1 x := by kernel_rfl
theorem s_slices_ContainsFunc_int64_of_impl_areWords_1 : CallsOk Tryz.prog 160 C_slices_ContainsFunc_int64_of_impl_areWords_1 :=
  fn_calls (L := []) hT g_slices_ContainsFunc_int64_of_impl_areWords_1 Tryz.f160 (by kernel_rfl) (by kernel_rfl) (by kernel_rfl) (plain_ok (by kernel_rfl)) r_slices_ContainsFunc_int64_of_impl_areWords_1
/-! impl.areWords -/
abbrev P_impl_areWords : List PK := [.val Y28]
abbrev R_impl_areWords : List VK := [.s (.dat .bool)]
def F_impl_areWords (x : denP P_impl_areWords) : Option (denV R_impl_areWords × denQ P_impl_areWords) :=
  (F_slices_ContainsFunc_int64_of_impl_areWords_1 (x.1, (), ())).bind fun r1 =>
  some (((!r1.1.1), ()), ())
abbrev C_impl_areWords : Con := ⟨P_impl_areWords, R_impl_areWords, F_impl_areWords, false⟩
abbrev G_impl_areWords : Env := [(160, C_slices_ContainsFunc_int64_of_impl_areWords_1)]
theorem g_impl_areWords : EnvOk Tryz.prog G_impl_areWords := (env_cons s_slices_ContainsFunc_int64_of_impl_areWords_1 env_nil)
theorem r_impl_areWords (x) : runFn T G_impl_areWords [] Tryz.f131 P_impl_areWords R_impl_areWords x = F_impl_areWords x := by kernel_rfl
theorem s_impl_areWords : CallsOk Tryz.prog 131 C_impl_areWords :=
  fn_calls (L := []) hT g_impl_areWords Tryz.f131 (by kernel_rfl) (by kernel_rfl) (by kernel_rfl) (plain_ok (by kernel_rfl)) r_impl_areWords
/-! impl.MemoryFault -/
abbrev P_impl_MemoryFault : List PK := [.val Y28]
abbrev R_impl_MemoryFault : List VK := [.s (.dat YI)]
def F_impl_MemoryFault (x : denP P_impl_MemoryFault) : Option (denV R_impl_MemoryFault × denQ P_impl_MemoryFault) :=
  let v1 := ((x.1.length : Nat) : Int)
  if (v1 == (0 : Int)) = false then
    let v2 := ((x.1.length : Nat) : Int)
    if (ltI (192 : Int) v2) = false then
      let v3 := ((x.1.length : Nat) : Int)
      let v4 := ((v3).tmod (8 : Int))
      if (v4 != (0 : Int)) then
        some (((1 : Int), ()), ())
      else
        (F_impl_areWords (x.1, ())).bind fun r5 =>
        if (!r5.1.1) then
          some (((3 : Int), ()), ())
        else
          some (((0 : Int), ()), ())
    else
      some (((1 : Int), ()), ())
  else
    some (((1 : Int), ()), ())
abbrev C_impl_MemoryFault : Con := ⟨P_impl_MemoryFault, R_impl_MemoryFault, F_impl_MemoryFault, false⟩
abbrev G_impl_MemoryFault : Env := [(131, C_impl_areWords)]
theorem g_impl_MemoryFault : EnvOk Tryz.prog G_impl_MemoryFault := (env_cons s_impl_areWords env_nil)
theorem r_impl_MemoryFault (x) : runFn T G_impl_MemoryFault [] Tryz.f141 P_impl_MemoryFault R_impl_MemoryFault x = F_impl_MemoryFault x := by kernel_rfl
theorem s_impl_MemoryFault : CallsOk Tryz.prog 141 C_impl_MemoryFault :=
  fn_calls (L := []) hT g_impl_MemoryFault Tryz.f141 (by kernel_rfl) (by kernel_rfl) (by kernel_rfl) (plain_ok (by kernel_rfl)) r_impl_MemoryFault
/-! impl.isWhole -/
abbrev P_impl_isWhole : List PK := [.val Y28]
abbrev R_impl_isWhole : List VK := [.s (.dat .bool)]
def F_impl_isWhole (x : denP P_impl_isWhole) : Option (denV R_impl_isWhole × denQ P_impl_isWhole) :=
  (F_impl_MemoryFault (x.1, ())).bind fun r1 =>
  if (r1.1.1 == (0 : Int)) = true then
    let v2 := ((x.1.length : Nat) : Int)
    some (((v2 == (192 : Int)), ()), ())
  else
    some ((false, ()), ())
abbrev C_impl_isWhole : Con := ⟨P_impl_isWhole, R_impl_isWhole, F_impl_isWhole, false⟩
abbrev G_impl_isWhole : Env := [(141, C_impl_MemoryFault)]
theorem g_impl_isWhole : EnvOk Tryz.prog G_impl_isWhole := (env_cons s_impl_MemoryFault env_nil)
theorem r_impl_isWhole (x) : runFn T G_impl_isWhole [] Tryz.f114 P_impl_isWhole R_impl_isWhole x = F_impl_isWhole x := by kernel_rfl
theorem s_impl_isWhole : CallsOk Tryz.prog 114 C_impl_isWhole :=
  fn_calls (L := []) hT g_impl_isWhole Tryz.f114 (by kernel_rfl) (by kernel_rfl) (by kernel_rfl) (plain_ok (by kernel_rfl)) r_impl_isWhole
/-! impl.HartFault -/
abbrev P_impl_HartFault : List PK := [.val Y68]
abbrev R_impl_HartFault : List VK := [.s (.dat YI)]
def F_impl_HartFault (x : denP P_impl_HartFault) : Option (denV R_impl_HartFault × denQ P_impl_HartFault) :=
  let v1 := ((x.1.1.length : Nat) : Int)
  if (v1 != (16 : Int)) = false then
    let v2 := ((x.1.2.2.1.length : Nat) : Int)
    if (v2 != (11 : Int)) = false then
      ((x.1.1)[((0 : Int)).toNat]?).bind fun y3 =>
      if (y3 != (0 : Int)) then
        some (((1 : Int), ()), ())
      else
        (F_impl_areWords (x.1.1, ())).bind fun r4 =>
        if (!r4.1.1) = false then
          (F_impl_isWord (x.1.2.1, ())).bind fun r5 =>
          if (!r5.1.1) = false then
            (F_impl_areWords (x.1.2.2.1, ())).bind fun r6 =>
            if (!r6.1.1) = false then
              (F_impl_areWords (x.1.2.2.2.2.2.2.2.1, ())).bind fun r7 =>
              if (!r7.1.1) = false then
                (F_impl_areWords (x.1.2.2.2.2.2.2.2.2.1, ())).bind fun r8 =>
                if (!r8.1.1) then
                  some (((3 : Int), ()), ())
                else
                  let v9 := ((x.1.2.2.2.2.2.2.2.1.length : Nat) : Int)
                  if (ltI (40 : Int) v9) = false then
                    let v10 := ((x.1.2.2.2.2.2.2.2.2.1.length : Nat) : Int)
                    if (ltI (40 : Int) v10) then
                      some (((2 : Int), ()), ())
                    else
                      (F_impl_within (x.1.2.2.2.2.2.2.1, (0 : Int), (1000000000 : Int), ())).bind fun r11 =>
                      if (!r11.1.1) then
                        some (((3 : Int), ()), ())
                      else
                        ((x.1.2.2.1)[((0 : Int)).toNat]?).bind fun y12 =>
                        if (ltI (3 : Int) y12) = false then
                          ((x.1.2.2.1)[((7 : Int)).toNat]?).bind fun y13 =>
                          if (ltI (7 : Int) y13) = false then
                            ((x.1.2.2.1)[((10 : Int)).toNat]?).bind fun y14 =>
                            if (ltI (8 : Int) y14) = false then
                              ((x.1.2.2.1)[((6 : Int)).toNat]?).bind fun y15 =>
                              if (y15 != (0 : Int)) = false then
                                ((x.1.2.2.1)[((8 : Int)).toNat]?).bind fun y16 =>
                                if (y16 != (0 : Int)) then
                                  some (((1 : Int), ()), ())
                                else
                                  some (((0 : Int), ()), ())
                              else
                                some (((1 : Int), ()), ())
                            else
                              some (((1 : Int), ()), ())
                          else
                            some (((1 : Int), ()), ())
                        else
                          some (((1 : Int), ()), ())
                  else
                    some (((2 : Int), ()), ())
              else
                some (((3 : Int), ()), ())
            else
              some (((3 : Int), ()), ())
          else
            some (((3 : Int), ()), ())
        else
          some (((3 : Int), ()), ())
    else
      some (((1 : Int), ()), ())
  else
    some (((1 : Int), ()), ())
abbrev C_impl_HartFault : Con := ⟨P_impl_HartFault, R_impl_HartFault, F_impl_HartFault, false⟩
abbrev G_impl_HartFault : Env := [(116, C_impl_within), (131, C_impl_areWords), (157, C_impl_isWord)]
theorem g_impl_HartFault : EnvOk Tryz.prog G_impl_HartFault := (env_cons s_impl_within (env_cons s_impl_areWords (env_cons s_impl_isWord env_nil)))
theorem r_impl_HartFault (x) : runFn T G_impl_HartFault [] Tryz.f115 P_impl_HartFault R_impl_HartFault x = F_impl_HartFault x := by kernel_rfl
theorem s_impl_HartFault : CallsOk Tryz.prog 115 C_impl_HartFault :=
  fn_calls (L := []) hT g_impl_HartFault Tryz.f115 (by kernel_rfl) (by kernel_rfl) (by kernel_rfl) (plain_ok (by kernel_rfl)) r_impl_HartFault
/-! (*impl.Policy).stepsOf -/
abbrev P_impl_Policy_stepsOf : List PK := [.ptr Y26, .val YI]
abbrev R_impl_Policy_stepsOf : List VK := [.s (.dat YI)]
abbrev i_impl_Policy_stepsOf_3 : Shp := { slots := [(1, .s (.dat YI)), (5, .s (.dat YI)), (11, .s (.dat Y24)), (12, .s (.dat YI)), (13, .s (.dat YI))], boxes := [], rows := [] }
abbrev o_impl_Policy_stepsOf_3 : List (Ex × Shp) := [(.exit 0, { slots := [(5, .s (.dat YI))], boxes := [], rows := [] })]
def l_impl_Policy_stepsOf_3 (rec : i_impl_Policy_stepsOf_3.den → Option (denO o_impl_Policy_stepsOf_3)) (u3 : i_impl_Policy_stepsOf_3.den) : Option (denO o_impl_Policy_stepsOf_3) :=
  if (ltI u3.1.2.2.2.2.1 u3.1.2.2.2.1) then
    if 0 ≤ u3.1.2.2.2.2.1 then
      ((u3.1.2.2.1)[(u3.1.2.2.2.2.1).toNat]?).bind fun y3 =>
      if (ltI u3.1.1 (0 : Int)) = false then
        if (y3.1 == u3.1.1) then
          let v4 := (IntKind.i64.wrap (u3.1.2.1 + y3.2.1))
          let v5 := (IntKind.i64.wrap (u3.1.2.2.2.2.1 + (1 : Int)))
          rec ((u3.1.1, (v4, (u3.1.2.2.1, (u3.1.2.2.2.1, (v5, ()))))), ((), ()))
        else
          let v6 := (IntKind.i64.wrap (u3.1.2.2.2.2.1 + (1 : Int)))
          rec ((u3.1.1, (u3.1.2.1, (u3.1.2.2.1, (u3.1.2.2.2.1, (v6, ()))))), ((), ()))
      else
        let v7 := (IntKind.i64.wrap (u3.1.2.1 + y3.2.1))
        let v8 := (IntKind.i64.wrap (u3.1.2.2.2.2.1 + (1 : Int)))
        rec ((u3.1.1, (v7, (u3.1.2.2.1, (u3.1.2.2.2.1, (v8, ()))))), ((), ()))
    else none
  else
    some (.inl ((u3.1.2.1, ()), ((), ())))
def L_impl_Policy_stepsOf_3 (x : i_impl_Policy_stepsOf_3.den) : Option (denO o_impl_Policy_stepsOf_3) := iterF l_impl_Policy_stepsOf_3 lots x
def F_impl_Policy_stepsOf (x : denP P_impl_Policy_stepsOf) : Option (denV R_impl_Policy_stepsOf × denQ P_impl_Policy_stepsOf) :=
  let v1 := ((x.1.2.2.2.1.length : Nat) : Int)
  (L_impl_Policy_stepsOf_3 ((x.2.1, ((0 : Int), (x.1.2.2.2.1, (v1, ((0 : Int), ()))))), ((), ()))).bind fun z9 =>
  match z9 with
  | .inl x10 =>
    some ((x10.1.1, ()), ())
  | .inr z9_ =>
    none
abbrev C_impl_Policy_stepsOf : Con := ⟨P_impl_Policy_stepsOf, R_impl_Policy_stepsOf, F_impl_Policy_stepsOf, false⟩
abbrev G_impl_Policy_stepsOf : Env := []
theorem g_impl_Policy_stepsOf : EnvOk Tryz.prog G_impl_Policy_stepsOf := env_nil
abbrev c_impl_Policy_stepsOf_3 : Cut := ⟨i_impl_Policy_stepsOf_3, o_impl_Policy_stepsOf_3, fun x => iterF l_impl_Policy_stepsOf_3 lots x⟩
theorem t_impl_Policy_stepsOf_3 (rec x) : run T G_impl_Policy_stepsOf [] (nav Tryz.f119 [1, 1, 0, 1, 0, 0]) (mk 31 i_impl_Policy_stepsOf_3 x) (loopK i_impl_Policy_stepsOf_3 o_impl_Policy_stepsOf_3 rec) = l_impl_Policy_stepsOf_3 rec x := by kernel_rfl
theorem k_impl_Policy_stepsOf_3 : CutOk Tryz.prog 31 (.loop (nav Tryz.f119 [1, 1, 0, 1, 0, 0])) c_impl_Policy_stepsOf_3 :=
  loop_cut (L := []) hT g_impl_Policy_stepsOf t_impl_Policy_stepsOf_3 (plain_ok (by kernel_rfl)) _
theorem r_impl_Policy_stepsOf (x) : runFn T G_impl_Policy_stepsOf [(3, c_impl_Policy_stepsOf_3)] Tryz.f119 P_impl_Policy_stepsOf R_impl_Policy_stepsOf x = F_impl_Policy_stepsOf x := by kernel_rfl
theorem s_impl_Policy_stepsOf : CallsOk Tryz.prog 119 C_impl_Policy_stepsOf :=
  fn_calls (L := [(3, c_impl_Policy_stepsOf_3)]) hT g_impl_Policy_stepsOf Tryz.f119 (by kernel_rfl) (by kernel_rfl) (by kernel_rfl) (seq_ok (plain_ok (by kernel_rfl)) (seq_ok (plain_ok (by kernel_rfl)) (seq_ok (seq_ok (plain_ok (by kernel_rfl)) (block_ok (by kernel_rfl) (loop_ok (by kernel_rfl) k_impl_Policy_stepsOf_3))) (plain_ok (by kernel_rfl))))) r_impl_Policy_stepsOf
/-! (*impl.Policy).turnAt -/
abbrev P_impl_Policy_turnAt : List PK := [.ptr Y26, .val YI]
abbrev R_impl_Policy_turnAt : List VK := [.s (.dat YI), .s (.dat YI)]
abbrev i_impl_Policy_turnAt_3 : Shp := { slots := [(0, .s (.pd Y26)), (1, .s (.dat YI)), (6, .s (.dat YI))], boxes := [], rows := [] }
abbrev o_impl_Policy_turnAt_3 : List (Ex × Shp) := [(.exit 0, { slots := [(0, .s (.pd Y26)), (1, .s (.dat YI)), (6, .s (.dat YI))], boxes := [], rows := [] })]
def l_impl_Policy_turnAt_3 (rec : i_impl_Policy_turnAt_3.den → Option (denO o_impl_Policy_turnAt_3)) (u3 : i_impl_Policy_turnAt_3.den) : Option (denO o_impl_Policy_turnAt_3) :=
  if 0 ≤ u3.1.2.2.1 then
    ((u3.1.1.2.2.2.1)[(u3.1.2.2.1).toNat]?).bind fun y5 =>
    if (leI y5.2.1 u3.1.2.1) then
      if 0 ≤ u3.1.2.2.1 then
        ((u3.1.1.2.2.2.1)[(u3.1.2.2.1).toNat]?).bind fun y6 =>
        let v7 := (IntKind.i64.wrap (u3.1.2.1 - y6.2.1))
        let v8 := (IntKind.i64.wrap (u3.1.2.2.1 + (1 : Int)))
        rec ((u3.1.1, (v7, (v8, ()))), ((), ()))
      else none
    else
      some (.inl ((u3.1.1, (u3.1.2.1, (u3.1.2.2.1, ()))), ((), ())))
  else none
def L_impl_Policy_turnAt_3 (x : i_impl_Policy_turnAt_3.den) : Option (denO o_impl_Policy_turnAt_3) := iterF l_impl_Policy_turnAt_3 lots x
def F_impl_Policy_turnAt (x : denP P_impl_Policy_turnAt) : Option (denV R_impl_Policy_turnAt × denQ P_impl_Policy_turnAt) :=
  (F_impl_Policy_stepsOf (x.1, (-1 : Int), ())).bind fun r1 =>
  if r1.1.1 = 0 then none else
  let v2 := ((x.2.1).tmod r1.1.1)
  (L_impl_Policy_turnAt_3 ((x.1, (v2, ((0 : Int), ()))), ((), ()))).bind fun z9 =>
  match z9 with
  | .inl x10 =>
    if 0 ≤ x10.1.2.2.1 then
      ((x10.1.1.2.2.2.1)[(x10.1.2.2.1).toNat]?).bind fun y11 =>
      let v12 := (IntKind.i64.wrap (y11.2.1 - x10.1.2.1))
      some ((x10.1.2.2.1, v12, ()), ())
    else none
  | .inr z9_ =>
    none
abbrev C_impl_Policy_turnAt : Con := ⟨P_impl_Policy_turnAt, R_impl_Policy_turnAt, F_impl_Policy_turnAt, false⟩
abbrev G_impl_Policy_turnAt : Env := [(119, C_impl_Policy_stepsOf)]
theorem g_impl_Policy_turnAt : EnvOk Tryz.prog G_impl_Policy_turnAt := (env_cons s_impl_Policy_stepsOf env_nil)
abbrev c_impl_Policy_turnAt_3 : Cut := ⟨i_impl_Policy_turnAt_3, o_impl_Policy_turnAt_3, fun x => iterF l_impl_Policy_turnAt_3 lots x⟩
theorem t_impl_Policy_turnAt_3 (rec x) : run T G_impl_Policy_turnAt [] (nav Tryz.f58 [1, 1, 1, 0, 0, 0]) (mk 44 i_impl_Policy_turnAt_3 x) (loopK i_impl_Policy_turnAt_3 o_impl_Policy_turnAt_3 rec) = l_impl_Policy_turnAt_3 rec x := by kernel_rfl
theorem k_impl_Policy_turnAt_3 : CutOk Tryz.prog 44 (.loop (nav Tryz.f58 [1, 1, 1, 0, 0, 0])) c_impl_Policy_turnAt_3 :=
  loop_cut (L := []) hT g_impl_Policy_turnAt t_impl_Policy_turnAt_3 (plain_ok (by kernel_rfl)) _
theorem r_impl_Policy_turnAt (x) : runFn T G_impl_Policy_turnAt [(3, c_impl_Policy_turnAt_3)] Tryz.f58 P_impl_Policy_turnAt R_impl_Policy_turnAt x = F_impl_Policy_turnAt x := by kernel_rfl
theorem s_impl_Policy_turnAt : CallsOk Tryz.prog 58 C_impl_Policy_turnAt :=
  fn_calls (L := [(3, c_impl_Policy_turnAt_3)]) hT g_impl_Policy_turnAt Tryz.f58 (by kernel_rfl) (by kernel_rfl) (by kernel_rfl) (seq_ok (plain_ok (by kernel_rfl)) (seq_ok (plain_ok (by kernel_rfl)) (seq_ok (plain_ok (by kernel_rfl)) (seq_ok (block_ok (by kernel_rfl) (loop_ok (by kernel_rfl) k_impl_Policy_turnAt_3)) (plain_ok (by kernel_rfl)))))) r_impl_Policy_turnAt
/-! impl.HostFault -/
abbrev P_impl_HostFault : List PK := [.val Y30]
abbrev R_impl_HostFault : List VK := [.s (.dat YI)]
abbrev i_impl_HostFault_7 : Shp := { slots := [(1, .s (.ptr 1 0)), (30, .s (.dat Y29)), (31, .s (.dat YI)), (32, .s (.dat YI))], boxes := [(1, [.dat Y22, .dat Y23, .dat Y24, .dat Y24, .dat Y28, .dat Y29, .dat YI, .dat YI, .dat YI])], rows := [] }
abbrev o_impl_HostFault_7 : List (Ex × Shp) := [(.exit 0, { slots := [(1, .s (.ptr 1 0))], boxes := [(1, [.dat Y22, .dat Y23, .dat Y24, .dat Y24, .dat Y28, .dat Y29, .dat YI, .dat YI, .dat YI])], rows := [] }), (.ret, { slots := [(2, .s (.dat YI))], boxes := [], rows := [] })]
def l_impl_HostFault_7 (rec : i_impl_HostFault_7.den → Option (denO o_impl_HostFault_7)) (u7 : i_impl_HostFault_7.den) : Option (denO o_impl_HostFault_7) :=
  if (ltI u7.1.2.2.2.1 u7.1.2.2.1) then
    if 0 ≤ u7.1.2.2.2.1 then
      ((u7.1.2.1)[(u7.1.2.2.2.1).toNat]?).bind fun y8 =>
      (F_impl_HartFault (y8, ())).bind fun r9 =>
      if (r9.1.1 != (0 : Int)) then
        some (.inr (.inl ((r9.1.1, ()), ((), ()))))
      else
        let v10 := (IntKind.i64.wrap (u7.1.2.2.2.1 + (1 : Int)))
        rec (((), (u7.1.2.1, (u7.1.2.2.1, (v10, ())))), (((u7.2.1.1.1, (u7.2.1.1.2.1, (u7.2.1.1.2.2.1, (u7.2.1.1.2.2.2.1, (u7.2.1.1.2.2.2.2.1, (u7.2.1.1.2.2.2.2.2.1, (u7.2.1.1.2.2.2.2.2.2.1, (u7.2.1.1.2.2.2.2.2.2.2.1, (u7.2.1.1.2.2.2.2.2.2.2.2.1, ()))))))))), ()), ()))
    else none
  else
    some (.inl (((), ()), (((u7.2.1.1.1, (u7.2.1.1.2.1, (u7.2.1.1.2.2.1, (u7.2.1.1.2.2.2.1, (u7.2.1.1.2.2.2.2.1, (u7.2.1.1.2.2.2.2.2.1, (u7.2.1.1.2.2.2.2.2.2.1, (u7.2.1.1.2.2.2.2.2.2.2.1, (u7.2.1.1.2.2.2.2.2.2.2.2.1, ()))))))))), ()), ())))
def L_impl_HostFault_7 (x : i_impl_HostFault_7.den) : Option (denO o_impl_HostFault_7) := iterF l_impl_HostFault_7 lots x
def F_impl_HostFault (x : denP P_impl_HostFault) : Option (denV R_impl_HostFault × denQ P_impl_HostFault) :=
  (F_impl_PolicyFault (x.1.1, ())).bind fun r1 =>
  if (r1.1.1 != (0 : Int)) then
    some ((r1.1.1, ()), ())
  else
    (F_impl_isWhole (x.1.2.1, ())).bind fun r2 =>
    if (!r2.1.1) = false then
      let v3 := ((x.1.2.2.1.length : Nat) : Int)
      let v4 := ((x.1.1.1.length : Nat) : Int)
      if (v3 != v4) then
        some (((1 : Int), ()), ())
      else
        let v5 := ((x.1.2.2.1.length : Nat) : Int)
        (L_impl_HostFault_7 (((), (x.1.2.2.1, (v5, ((0 : Int), ())))), (((x.1.1.1, (x.1.1.2.1, (x.1.1.2.2.1, (x.1.1.2.2.2.1, (x.1.2.1, (x.1.2.2.1, (x.1.2.2.2.1, (x.1.2.2.2.2.1, (x.1.2.2.2.2.2.1, ()))))))))), ()), ()))).bind fun z11 =>
        match z11 with
        | .inl x12 =>
          (F_impl_within (x12.2.1.1.2.2.2.2.2.2.2.2.1, (0 : Int), (1000000 : Int), ())).bind fun r13 =>
          if (!r13.1.1) then
            some (((3 : Int), ()), ())
          else
            (F_impl_Policy_turnAt ((x12.2.1.1.1, (x12.2.1.1.2.1, (x12.2.1.1.2.2.1, (x12.2.1.1.2.2.2.1, ())))), x12.2.1.1.2.2.2.2.2.2.2.2.1, ())).bind fun r14 =>
            if (x12.2.1.1.2.2.2.2.2.2.1 != r14.1.1) = false then
              if (x12.2.1.1.2.2.2.2.2.2.2.1 != r14.1.2.1) then
                some (((1 : Int), ()), ())
              else
                some (((0 : Int), ()), ())
            else
              some (((1 : Int), ()), ())
        | .inr z11_ =>
          match z11_ with
          | .inl x15 =>
            some ((x15.1.1, ()), ())
          | .inr z11__ =>
            none
    else
      some (((1 : Int), ()), ())
abbrev C_impl_HostFault : Con := ⟨P_impl_HostFault, R_impl_HostFault, F_impl_HostFault, false⟩
abbrev G_impl_HostFault : Env := [(58, C_impl_Policy_turnAt), (113, C_impl_PolicyFault), (114, C_impl_isWhole), (115, C_impl_HartFault), (116, C_impl_within)]
theorem g_impl_HostFault : EnvOk Tryz.prog G_impl_HostFault := (env_cons s_impl_Policy_turnAt (env_cons s_impl_PolicyFault (env_cons s_impl_isWhole (env_cons s_impl_HartFault (env_cons s_impl_within env_nil)))))
abbrev c_impl_HostFault_7 : Cut := ⟨i_impl_HostFault_7, o_impl_HostFault_7, fun x => iterF l_impl_HostFault_7 lots x⟩
theorem t_impl_HostFault_7 (rec x) : run T G_impl_HostFault [] (nav Tryz.f56 [1, 1, 1, 0, 1, 0, 0]) (mk 63 i_impl_HostFault_7 x) (loopK i_impl_HostFault_7 o_impl_HostFault_7 rec) = l_impl_HostFault_7 rec x := by kernel_rfl
theorem k_impl_HostFault_7 : CutOk Tryz.prog 63 (.loop (nav Tryz.f56 [1, 1, 1, 0, 1, 0, 0])) c_impl_HostFault_7 :=
  loop_cut (L := []) hT g_impl_HostFault t_impl_HostFault_7 (plain_ok (by kernel_rfl)) _
theorem r_impl_HostFault (x) : runFn T G_impl_HostFault [(7, c_impl_HostFault_7)] Tryz.f56 P_impl_HostFault R_impl_HostFault x = F_impl_HostFault x := by kernel_rfl
theorem s_impl_HostFault : CallsOk Tryz.prog 56 C_impl_HostFault :=
  fn_calls (L := [(7, c_impl_HostFault_7)]) hT g_impl_HostFault Tryz.f56 (by kernel_rfl) (by kernel_rfl) (by kernel_rfl) (seq_ok (plain_ok (by kernel_rfl)) (seq_ok (plain_ok (by kernel_rfl)) (seq_ok (plain_ok (by kernel_rfl)) (seq_ok (seq_ok (plain_ok (by kernel_rfl)) (block_ok (by kernel_rfl) (loop_ok (by kernel_rfl) k_impl_HostFault_7))) (plain_ok (by kernel_rfl)))))) r_impl_HostFault
/-! impl.stepsFault.1 -/
abbrev P_impl_stepsFault_1 : List PK := [.val Y30, .ptr YI]
abbrev R_impl_stepsFault_1 : List VK := [.s (.dat .bool)]
def F_impl_stepsFault_1 (x : denP P_impl_stepsFault_1) : Option (denV R_impl_stepsFault_1 × denQ P_impl_stepsFault_1) :=
  let v1 := (IntKind.i64.wrap (x.1.2.2.2.2.2.1 + x.2.1))
  some (((ltI (1000000 : Int) v1), ()), ())
abbrev C_impl_stepsFault_1 : Con := ⟨P_impl_stepsFault_1, R_impl_stepsFault_1, F_impl_stepsFault_1, false⟩
abbrev G_impl_stepsFault_1 : Env := []
theorem g_impl_stepsFault_1 : EnvOk Tryz.prog G_impl_stepsFault_1 := env_nil
theorem r_impl_stepsFault_1 (x) : runFn T G_impl_stepsFault_1 [] Tryz.f118 P_impl_stepsFault_1 R_impl_stepsFault_1 x = F_impl_stepsFault_1 x := by kernel_rfl
theorem s_impl_stepsFault_1 : CallsOk Tryz.prog 118 C_impl_stepsFault_1 :=
  fn_calls (L := []) hT g_impl_stepsFault_1 Tryz.f118 (by kernel_rfl) (by kernel_rfl) (by kernel_rfl) (plain_ok (by kernel_rfl)) r_impl_stepsFault_1
/-! slices.IndexFunc[impl.Host,impl.Host] -/
abbrev P_slices_IndexFunc_impl_Host_of_impl_stepsFault_1 : List PK := [.val Y159, .fn 118 [YI]]
abbrev R_slices_IndexFunc_impl_Host_of_impl_stepsFault_1 : List VK := [.s (.dat YI)]
abbrev i_slices_IndexFunc_impl_Host_of_impl_stepsFault_1_2 : Shp := { slots := [(0, .s (.dat Y159)), (1, .s (.fn 118 [YI])), (7, .s (.dat YI)), (8, .s (.dat YI))], boxes := [], rows := [] }
abbrev o_slices_IndexFunc_impl_Host_of_impl_stepsFault_1_2 : List (Ex × Shp) := [(.exit 0, { slots := [], boxes := [], rows := [] }), (.ret, { slots := [(4, .s (.dat YI))], boxes := [], rows := [] })]
def l_slices_IndexFunc_impl_Host_of_impl_stepsFault_1_2 (rec : i_slices_IndexFunc_impl_Host_of_impl_stepsFault_1_2.den → Option (denO o_slices_IndexFunc_impl_Host_of_impl_stepsFault_1_2)) (u2 : i_slices_IndexFunc_impl_Host_of_impl_stepsFault_1_2.den) : Option (denO o_slices_IndexFunc_impl_Host_of_impl_stepsFault_1_2) :=
  if (ltI u2.1.2.2.2.1 u2.1.2.2.1) then
    if 0 ≤ u2.1.2.2.2.1 then
      ((u2.1.1)[(u2.1.2.2.2.1).toNat]?).bind fun y4 =>
      (F_impl_stepsFault_1 (y4, u2.1.2.1.1, ())).bind fun r5 =>
      if r5.1.1 then
        some (.inr (.inl ((u2.1.2.2.2.1, ()), ((), ()))))
      else
        let v6 := (IntKind.i64.wrap (u2.1.2.2.2.1 + (1 : Int)))
        rec ((u2.1.1, ((u2.1.2.1.1, ()), (u2.1.2.2.1, (v6, ())))), ((), ()))
    else none
  else
    some (.inl ((), ((), ())))
def L_slices_IndexFunc_impl_Host_of_impl_stepsFault_1_2 (x : i_slices_IndexFunc_impl_Host_of_impl_stepsFault_1_2.den) : Option (denO o_slices_IndexFunc_impl_Host_of_impl_stepsFault_1_2) := iterF l_slices_IndexFunc_impl_Host_of_impl_stepsFault_1_2 lots x
def F_slices_IndexFunc_impl_Host_of_impl_stepsFault_1 (x : denP P_slices_IndexFunc_impl_Host_of_impl_stepsFault_1) : Option (denV R_slices_IndexFunc_impl_Host_of_impl_stepsFault_1 × denQ P_slices_IndexFunc_impl_Host_of_impl_stepsFault_1) :=
  let v1 := ((x.1.length : Nat) : Int)
  (L_slices_IndexFunc_impl_Host_of_impl_stepsFault_1_2 ((x.1, ((x.2.1.1, ()), (v1, ((0 : Int), ())))), ((), ()))).bind fun z7 =>
  match z7 with
  | .inl x8 =>
    some (((-1 : Int), ()), ())
  | .inr z7_ =>
    match z7_ with
    | .inl x9 =>
      some ((x9.1.1, ()), ())
    | .inr z7__ =>
      none
abbrev C_slices_IndexFunc_impl_Host_of_impl_stepsFault_1 : Con := ⟨P_slices_IndexFunc_impl_Host_of_impl_stepsFault_1, R_slices_IndexFunc_impl_Host_of_impl_stepsFault_1, F_slices_IndexFunc_impl_Host_of_impl_stepsFault_1, false⟩
abbrev G_slices_IndexFunc_impl_Host_of_impl_stepsFault_1 : Env := [(118, C_impl_stepsFault_1)]
theorem g_slices_IndexFunc_impl_Host_of_impl_stepsFault_1 : EnvOk Tryz.prog G_slices_IndexFunc_impl_Host_of_impl_stepsFault_1 := (env_cons s_impl_stepsFault_1 env_nil)
abbrev c_slices_IndexFunc_impl_Host_of_impl_stepsFault_1_2 : Cut := ⟨i_slices_IndexFunc_impl_Host_of_impl_stepsFault_1_2, o_slices_IndexFunc_impl_Host_of_impl_stepsFault_1_2, fun x => iterF l_slices_IndexFunc_impl_Host_of_impl_stepsFault_1_2 lots x⟩
theorem t_slices_IndexFunc_impl_Host_of_impl_stepsFault_1_2 (rec x) : run T G_slices_IndexFunc_impl_Host_of_impl_stepsFault_1 [] (nav Tryz.f158 [1, 0, 1, 0, 0]) (mk 19 i_slices_IndexFunc_impl_Host_of_impl_stepsFault_1_2 x) (loopK i_slices_IndexFunc_impl_Host_of_impl_stepsFault_1_2 o_slices_IndexFunc_impl_Host_of_impl_stepsFault_1_2 rec) = l_slices_IndexFunc_impl_Host_of_impl_stepsFault_1_2 rec x := by kernel_rfl
theorem k_slices_IndexFunc_impl_Host_of_impl_stepsFault_1_2 : CutOk Tryz.prog 19 (.loop (nav Tryz.f158 [1, 0, 1, 0, 0])) c_slices_IndexFunc_impl_Host_of_impl_stepsFault_1_2 :=
  loop_cut (L := []) hT g_slices_IndexFunc_impl_Host_of_impl_stepsFault_1 t_slices_IndexFunc_impl_Host_of_impl_stepsFault_1_2 (plain_ok (by kernel_rfl)) _
theorem r_slices_IndexFunc_impl_Host_of_impl_stepsFault_1 (x) : runFn T G_slices_IndexFunc_impl_Host_of_impl_stepsFault_1 [(2, c_slices_IndexFunc_impl_Host_of_impl_stepsFault_1_2)] Tryz.f158 P_slices_IndexFunc_impl_Host_of_impl_stepsFault_1 R_slices_IndexFunc_impl_Host_of_impl_stepsFault_1 x = F_slices_IndexFunc_impl_Host_of_impl_stepsFault_1 x := by kernel_rfl
theorem s_slices_IndexFunc_impl_Host_of_impl_stepsFault_1 : CallsOk Tryz.prog 158 C_slices_IndexFunc_impl_Host_of_impl_stepsFault_1 :=
  fn_calls (L := [(2, c_slices_IndexFunc_impl_Host_of_impl_stepsFault_1_2)]) hT g_slices_IndexFunc_impl_Host_of_impl_stepsFault_1 Tryz.f158 (by kernel_rfl) (by kernel_rfl) (by kernel_rfl) (seq_ok (plain_ok (by kernel_rfl)) (seq_ok (seq_ok (plain_ok (by kernel_rfl)) (block_ok (by kernel_rfl) (loop_ok (by kernel_rfl) k_slices_IndexFunc_impl_Host_of_impl_stepsFault_1_2))) (plain_ok (by kernel_rfl)))) r_slices_IndexFunc_impl_Host_of_impl_stepsFault_1
/-! slices.ContainsFunc[impl.Host,impl.Host] -/
abbrev P_slices_ContainsFunc_impl_Host_of_impl_stepsFault_1 : List PK := [.val Y159, .fn 118 [YI]]
abbrev R_slices_ContainsFunc_impl_Host_of_impl_stepsFault_1 : List VK := [.s (.dat .bool)]
def F_slices_ContainsFunc_impl_Host_of_impl_stepsFault_1 (x : denP P_slices_ContainsFunc_impl_Host_of_impl_stepsFault_1) : Option (denV R_slices_ContainsFunc_impl_Host_of_impl_stepsFault_1 × denQ P_slices_ContainsFunc_impl_Host_of_impl_stepsFault_1) :=
  (F_slices_IndexFunc_impl_Host_of_impl_stepsFault_1 (x.1, (x.2.1.1, ()), ())).bind fun r1 =>
  some (((leI (0 : Int) r1.1.1), ()), ())
abbrev C_slices_ContainsFunc_impl_Host_of_impl_stepsFault_1 : Con := ⟨P_slices_ContainsFunc_impl_Host_of_impl_stepsFault_1, R_slices_ContainsFunc_impl_Host_of_impl_stepsFault_1, F_slices_ContainsFunc_impl_Host_of_impl_stepsFault_1, false⟩
abbrev G_slices_ContainsFunc_impl_Host_of_impl_stepsFault_1 : Env := [(158, C_slices_IndexFunc_impl_Host_of_impl_stepsFault_1)]
theorem g_slices_ContainsFunc_impl_Host_of_impl_stepsFault_1 : EnvOk Tryz.prog G_slices_ContainsFunc_impl_Host_of_impl_stepsFault_1 := (env_cons s_slices_IndexFunc_impl_Host_of_impl_stepsFault_1 env_nil)
theorem r_slices_ContainsFunc_impl_Host_of_impl_stepsFault_1 (x) : runFn T G_slices_ContainsFunc_impl_Host_of_impl_stepsFault_1 [] Tryz.f117 P_slices_ContainsFunc_impl_Host_of_impl_stepsFault_1 R_slices_ContainsFunc_impl_Host_of_impl_stepsFault_1 x = F_slices_ContainsFunc_impl_Host_of_impl_stepsFault_1 x := by kernel_rfl
theorem s_slices_ContainsFunc_impl_Host_of_impl_stepsFault_1 : CallsOk Tryz.prog 117 C_slices_ContainsFunc_impl_Host_of_impl_stepsFault_1 :=
  fn_calls (L := []) hT g_slices_ContainsFunc_impl_Host_of_impl_stepsFault_1 Tryz.f117 (by kernel_rfl) (by kernel_rfl) (by kernel_rfl) (plain_ok (by kernel_rfl)) r_slices_ContainsFunc_impl_Host_of_impl_stepsFault_1
/-! impl.stepsFault -/
abbrev P_impl_stepsFault : List PK := [.val YI, .val Y159]
abbrev R_impl_stepsFault : List VK := [.s (.dat YI)]
def F_impl_stepsFault (x : denP P_impl_stepsFault) : Option (denV R_impl_stepsFault × denQ P_impl_stepsFault) :=
  (F_impl_within (x.1, (0 : Int), (200 : Int), ())).bind fun r1 =>
  if (!r1.1.1) = false then
    (F_slices_ContainsFunc_impl_Host_of_impl_stepsFault_1 (x.2.1, (x.1, ()), ())).bind fun r2 =>
    if r2.1.1 then
      some (((3 : Int), ()), ())
    else
      some (((0 : Int), ()), ())
  else
    some (((3 : Int), ()), ())
abbrev C_impl_stepsFault : Con := ⟨P_impl_stepsFault, R_impl_stepsFault, F_impl_stepsFault, false⟩
abbrev G_impl_stepsFault : Env := [(116, C_impl_within), (117, C_slices_ContainsFunc_impl_Host_of_impl_stepsFault_1)]
theorem g_impl_stepsFault : EnvOk Tryz.prog G_impl_stepsFault := (env_cons s_impl_within (env_cons s_slices_ContainsFunc_impl_Host_of_impl_stepsFault_1 env_nil))
theorem r_impl_stepsFault (x) : runFn T G_impl_stepsFault [] Tryz.f57 P_impl_stepsFault R_impl_stepsFault x = F_impl_stepsFault x := by kernel_rfl
theorem s_impl_stepsFault : CallsOk Tryz.prog 57 C_impl_stepsFault :=
  fn_calls (L := []) hT g_impl_stepsFault Tryz.f57 (by kernel_rfl) (by kernel_rfl) (by kernel_rfl) (plain_ok (by kernel_rfl)) r_impl_stepsFault
/-! impl.firstOf -/
abbrev P_impl_firstOf : List PK := [.val Y28]
abbrev R_impl_firstOf : List VK := [.s (.dat YI)]
abbrev i_impl_firstOf_2 : Shp := { slots := [(5, .s (.dat Y28)), (6, .s (.dat YI)), (7, .s (.dat YI))], boxes := [], rows := [] }
abbrev o_impl_firstOf_2 : List (Ex × Shp) := [(.exit 0, { slots := [], boxes := [], rows := [] }), (.ret, { slots := [(2, .s (.dat YI))], boxes := [], rows := [] })]
def l_impl_firstOf_2 (rec : i_impl_firstOf_2.den → Option (denO o_impl_firstOf_2)) (u2 : i_impl_firstOf_2.den) : Option (denO o_impl_firstOf_2) :=
  if (ltI u2.1.2.2.1 u2.1.2.1) then
    if 0 ≤ u2.1.2.2.1 then
      ((u2.1.1)[(u2.1.2.2.1).toNat]?).bind fun y3 =>
      if (y3 != (0 : Int)) then
        some (.inr (.inl ((y3, ()), ((), ()))))
      else
        let v4 := (IntKind.i64.wrap (u2.1.2.2.1 + (1 : Int)))
        rec ((u2.1.1, (u2.1.2.1, (v4, ()))), ((), ()))
    else none
  else
    some (.inl ((), ((), ())))
def L_impl_firstOf_2 (x : i_impl_firstOf_2.den) : Option (denO o_impl_firstOf_2) := iterF l_impl_firstOf_2 lots x
def F_impl_firstOf (x : denP P_impl_firstOf) : Option (denV R_impl_firstOf × denQ P_impl_firstOf) :=
  let v1 := ((x.1.length : Nat) : Int)
  (L_impl_firstOf_2 ((x.1, (v1, ((0 : Int), ()))), ((), ()))).bind fun z5 =>
  match z5 with
  | .inl x6 =>
    some (((0 : Int), ()), ())
  | .inr z5_ =>
    match z5_ with
    | .inl x7 =>
      some ((x7.1.1, ()), ())
    | .inr z5__ =>
      none
abbrev C_impl_firstOf : Con := ⟨P_impl_firstOf, R_impl_firstOf, F_impl_firstOf, false⟩
abbrev G_impl_firstOf : Env := []
theorem g_impl_firstOf : EnvOk Tryz.prog G_impl_firstOf := env_nil
abbrev c_impl_firstOf_2 : Cut := ⟨i_impl_firstOf_2, o_impl_firstOf_2, fun x => iterF l_impl_firstOf_2 lots x⟩
theorem t_impl_firstOf_2 (rec x) : run T G_impl_firstOf [] (nav Tryz.f55 [1, 0, 1, 0, 0]) (mk 15 i_impl_firstOf_2 x) (loopK i_impl_firstOf_2 o_impl_firstOf_2 rec) = l_impl_firstOf_2 rec x := by kernel_rfl
theorem k_impl_firstOf_2 : CutOk Tryz.prog 15 (.loop (nav Tryz.f55 [1, 0, 1, 0, 0])) c_impl_firstOf_2 :=
  loop_cut (L := []) hT g_impl_firstOf t_impl_firstOf_2 (plain_ok (by kernel_rfl)) _
theorem r_impl_firstOf (x) : runFn T G_impl_firstOf [(2, c_impl_firstOf_2)] Tryz.f55 P_impl_firstOf R_impl_firstOf x = F_impl_firstOf x := by kernel_rfl
theorem s_impl_firstOf : CallsOk Tryz.prog 55 C_impl_firstOf :=
  fn_calls (L := [(2, c_impl_firstOf_2)]) hT g_impl_firstOf Tryz.f55 (by kernel_rfl) (by kernel_rfl) (by kernel_rfl) (seq_ok (plain_ok (by kernel_rfl)) (seq_ok (seq_ok (plain_ok (by kernel_rfl)) (block_ok (by kernel_rfl) (loop_ok (by kernel_rfl) k_impl_firstOf_2))) (plain_ok (by kernel_rfl)))) r_impl_firstOf
/-! impl.TraceOf -/
abbrev P_impl_TraceOf : List PK := [.val Y30, .val YI]
abbrev R_impl_TraceOf : List VK := [.g [.dat YI, .own 2 YI]]
abbrev i_impl_TraceOf_6 : Shp := { slots := [(2, .s (.ptr 2 0)), (4, .s (.ptr 4 0)), (6, .s (.own 2 YI)), (23, .s (.dat YI)), (24, .s (.dat YI))], boxes := [(2, [.dat Y22, .dat Y23, .dat Y24, .dat Y24, .dat Y28, .dat Y29, .dat YI, .dat YI, .dat YI]), (4, [.dat YI, .own 2 YI])], rows := [] }
abbrev o_impl_TraceOf_6 : List (Ex × Shp) := [(.exit 0, { slots := [(4, .s (.ptr 4 0)), (6, .s (.own 2 YI))], boxes := [(4, [.dat YI, .own 2 YI])], rows := [] })]
def l_impl_TraceOf_6 (rec : i_impl_TraceOf_6.den → Option (denO o_impl_TraceOf_6)) (u6 : i_impl_TraceOf_6.den) : Option (denO o_impl_TraceOf_6) :=
  if (ltI u6.1.2.2.2.2.1 u6.1.2.2.2.1) then
    let v6 := (IntKind.i64.wrap (u6.2.1.1.2.2.2.2.2.2.2.2.1 + u6.1.2.2.2.2.1))
    (F_impl_Policy_turnAt ((u6.2.1.1.1, (u6.2.1.1.2.1, (u6.2.1.1.2.2.1, (u6.2.1.1.2.2.2.1, ())))), v6, ())).bind fun r7 =>
    if 0 ≤ r7.1.1 then
      ((u6.2.1.1.2.2.2.1)[(r7.1.1).toNat]?).bind fun y8 =>
      if (u6.1.2.2.1.length + [y8.1].length) * 8 ≤ 140737488355328 then
        let v9 := (u6.1.2.2.1 ++ [y8.1])
        let v10 := (IntKind.i64.wrap (u6.1.2.2.2.2.1 + (1 : Int)))
        rec (((), ((), (v9, (u6.1.2.2.2.1, (v10, ()))))), (((u6.2.1.1.1, (u6.2.1.1.2.1, (u6.2.1.1.2.2.1, (u6.2.1.1.2.2.2.1, (u6.2.1.1.2.2.2.2.1, (u6.2.1.1.2.2.2.2.2.1, (u6.2.1.1.2.2.2.2.2.2.1, (u6.2.1.1.2.2.2.2.2.2.2.1, (u6.2.1.1.2.2.2.2.2.2.2.2.1, ()))))))))), ((u6.2.1.2.1.1, (u6.2.1.2.1.2.1, ())), ())), ()))
      else none
    else none
  else
    some (.inl (((), (u6.1.2.2.1, ())), (((u6.2.1.2.1.1, (u6.2.1.2.1.2.1, ())), ()), ())))
def L_impl_TraceOf_6 (x : i_impl_TraceOf_6.den) : Option (denO o_impl_TraceOf_6) := iterF l_impl_TraceOf_6 lots x
def F_impl_TraceOf (x : denP P_impl_TraceOf) : Option (denV R_impl_TraceOf × denQ P_impl_TraceOf) :=
  (F_impl_HostFault (x.1, ())).bind fun r1 =>
  (F_impl_stepsFault (x.2.1, [x.1], ())).bind fun r2 =>
  (F_impl_firstOf ([r1.1.1, r2.1.1], ())).bind fun r3 =>
  if (r3.1.1 != (0 : Int)) then
    some (((r3.1.1, (([] : List (den YI)), ())), ()), ())
  else
    (L_impl_TraceOf_6 (((), ((), (([] : List (den YI)), (x.2.1, ((0 : Int), ()))))), (((x.1.1.1, (x.1.1.2.1, (x.1.1.2.2.1, (x.1.1.2.2.2.1, (x.1.2.1, (x.1.2.2.1, (x.1.2.2.2.1, (x.1.2.2.2.2.1, (x.1.2.2.2.2.2.1, ()))))))))), (((0 : Int), (([] : List (den YI)), ())), ())), ()))).bind fun z11 =>
    match z11 with
    | .inl x12 =>
      some ((((0 : Int), (x12.1.2.1, ())), ()), ())
    | .inr z11_ =>
      none
abbrev C_impl_TraceOf : Con := ⟨P_impl_TraceOf, R_impl_TraceOf, F_impl_TraceOf, false⟩
abbrev G_impl_TraceOf : Env := [(55, C_impl_firstOf), (56, C_impl_HostFault), (57, C_impl_stepsFault), (58, C_impl_Policy_turnAt)]
theorem g_impl_TraceOf : EnvOk Tryz.prog G_impl_TraceOf := (env_cons s_impl_firstOf (env_cons s_impl_HostFault (env_cons s_impl_stepsFault (env_cons s_impl_Policy_turnAt env_nil))))
abbrev c_impl_TraceOf_6 : Cut := ⟨i_impl_TraceOf_6, o_impl_TraceOf_6, fun x => iterF l_impl_TraceOf_6 lots x⟩
theorem t_impl_TraceOf_6 (rec x) : run T G_impl_TraceOf [] (nav Tryz.f12 [1, 1, 1, 0, 1, 0, 0]) (mk 49 i_impl_TraceOf_6 x) (loopK i_impl_TraceOf_6 o_impl_TraceOf_6 rec) = l_impl_TraceOf_6 rec x := by kernel_rfl
theorem k_impl_TraceOf_6 : CutOk Tryz.prog 49 (.loop (nav Tryz.f12 [1, 1, 1, 0, 1, 0, 0])) c_impl_TraceOf_6 :=
  loop_cut (L := []) hT g_impl_TraceOf t_impl_TraceOf_6 (plain_ok (by kernel_rfl)) _
theorem r_impl_TraceOf (x) : runFn T G_impl_TraceOf [(6, c_impl_TraceOf_6)] Tryz.f12 P_impl_TraceOf R_impl_TraceOf x = F_impl_TraceOf x := by kernel_rfl
theorem s_impl_TraceOf : CallsOk Tryz.prog 12 C_impl_TraceOf :=
  fn_calls (L := [(6, c_impl_TraceOf_6)]) hT g_impl_TraceOf Tryz.f12 (by kernel_rfl) (by kernel_rfl) (by kernel_rfl) (seq_ok (plain_ok (by kernel_rfl)) (seq_ok (plain_ok (by kernel_rfl)) (seq_ok (plain_ok (by kernel_rfl)) (seq_ok (seq_ok (plain_ok (by kernel_rfl)) (block_ok (by kernel_rfl) (loop_ok (by kernel_rfl) k_impl_TraceOf_6))) (plain_ok (by kernel_rfl)))))) r_impl_TraceOf
/-! laws.eqInt64S -/
abbrev P_laws_eqInt64S : List PK := [.val Y28, .val Y28]
abbrev R_laws_eqInt64S : List VK := [.s (.dat .bool)]
abbrev i_laws_eqInt64S_4 : Shp := { slots := [(0, .s (.dat Y28)), (1, .s (.dat Y28)), (5, .s (.dat YI))], boxes := [], rows := [] }
abbrev o_laws_eqInt64S_4 : List (Ex × Shp) := [(.exit 0, { slots := [], boxes := [], rows := [] }), (.ret, { slots := [(4, .s (.dat .bool))], boxes := [], rows := [] })]
def l_laws_eqInt64S_4 (rec : i_laws_eqInt64S_4.den → Option (denO o_laws_eqInt64S_4)) (u4 : i_laws_eqInt64S_4.den) : Option (denO o_laws_eqInt64S_4) :=
  let v5 := ((u4.1.1.length : Nat) : Int)
  if (ltI u4.1.2.2.1 v5) then
    if 0 ≤ u4.1.2.2.1 then
      ((u4.1.1)[(u4.1.2.2.1).toNat]?).bind fun y6 =>
      if 0 ≤ u4.1.2.2.1 then
        ((u4.1.2.1)[(u4.1.2.2.1).toNat]?).bind fun y7 =>
        if (y6 != y7) then
          some (.inr (.inl ((false, ()), ((), ()))))
        else
          let v8 := (IntKind.i64.wrap (u4.1.2.2.1 + (1 : Int)))
          rec ((u4.1.1, (u4.1.2.1, (v8, ()))), ((), ()))
      else none
    else none
  else
    some (.inl ((), ((), ())))
def L_laws_eqInt64S_4 (x : i_laws_eqInt64S_4.den) : Option (denO o_laws_eqInt64S_4) := iterF l_laws_eqInt64S_4 lots x
def F_laws_eqInt64S (x : denP P_laws_eqInt64S) : Option (denV R_laws_eqInt64S × denQ P_laws_eqInt64S) :=
  let v1 := ((x.1.length : Nat) : Int)
  let v2 := ((x.2.1.length : Nat) : Int)
  if (v1 != v2) then
    some ((false, ()), ())
  else
    (L_laws_eqInt64S_4 ((x.1, (x.2.1, ((0 : Int), ()))), ((), ()))).bind fun z9 =>
    match z9 with
    | .inl x10 =>
      some ((true, ()), ())
    | .inr z9_ =>
      match z9_ with
      | .inl x11 =>
        some ((x11.1.1, ()), ())
      | .inr z9__ =>
        none
abbrev C_laws_eqInt64S : Con := ⟨P_laws_eqInt64S, R_laws_eqInt64S, F_laws_eqInt64S, false⟩
abbrev G_laws_eqInt64S : Env := []
theorem g_laws_eqInt64S : EnvOk Tryz.prog G_laws_eqInt64S := env_nil
abbrev c_laws_eqInt64S_4 : Cut := ⟨i_laws_eqInt64S_4, o_laws_eqInt64S_4, fun x => iterF l_laws_eqInt64S_4 lots x⟩
theorem t_laws_eqInt64S_4 (rec x) : run T G_laws_eqInt64S [] (nav Tryz.f34 [1, 1, 0, 1, 0, 0]) (mk 26 i_laws_eqInt64S_4 x) (loopK i_laws_eqInt64S_4 o_laws_eqInt64S_4 rec) = l_laws_eqInt64S_4 rec x := by kernel_rfl
theorem k_laws_eqInt64S_4 : CutOk Tryz.prog 26 (.loop (nav Tryz.f34 [1, 1, 0, 1, 0, 0])) c_laws_eqInt64S_4 :=
  loop_cut (L := []) hT g_laws_eqInt64S t_laws_eqInt64S_4 (plain_ok (by kernel_rfl)) _
theorem r_laws_eqInt64S (x) : runFn T G_laws_eqInt64S [(4, c_laws_eqInt64S_4)] Tryz.f34 P_laws_eqInt64S R_laws_eqInt64S x = F_laws_eqInt64S x := by kernel_rfl
theorem s_laws_eqInt64S : CallsOk Tryz.prog 34 C_laws_eqInt64S :=
  fn_calls (L := [(4, c_laws_eqInt64S_4)]) hT g_laws_eqInt64S Tryz.f34 (by kernel_rfl) (by kernel_rfl) (by kernel_rfl) (seq_ok (plain_ok (by kernel_rfl)) (seq_ok (plain_ok (by kernel_rfl)) (seq_ok (seq_ok (plain_ok (by kernel_rfl)) (block_ok (by kernel_rfl) (loop_ok (by kernel_rfl) k_laws_eqInt64S_4))) (plain_ok (by kernel_rfl))))) r_laws_eqInt64S
/-! laws.eqIntsResult -/
abbrev P_laws_eqIntsResult : List PK := [.val Y33, .val Y33]
abbrev R_laws_eqIntsResult : List VK := [.s (.dat .bool)]
def F_laws_eqIntsResult (x : denP P_laws_eqIntsResult) : Option (denV R_laws_eqIntsResult × denQ P_laws_eqIntsResult) :=
  if (x.1.1 != x.2.1.1) then
    some ((false, ()), ())
  else
    (F_laws_eqInt64S (x.1.2.1, x.2.1.2.1, ())).bind fun r1 =>
    if (!r1.1.1) then
      some ((false, ()), ())
    else
      some ((true, ()), ())
abbrev C_laws_eqIntsResult : Con := ⟨P_laws_eqIntsResult, R_laws_eqIntsResult, F_laws_eqIntsResult, false⟩
abbrev G_laws_eqIntsResult : Env := [(34, C_laws_eqInt64S)]
theorem g_laws_eqIntsResult : EnvOk Tryz.prog G_laws_eqIntsResult := (env_cons s_laws_eqInt64S env_nil)
theorem r_laws_eqIntsResult (x) : runFn T G_laws_eqIntsResult [] Tryz.f13 P_laws_eqIntsResult R_laws_eqIntsResult x = F_laws_eqIntsResult x := by kernel_rfl
theorem s_laws_eqIntsResult : CallsOk Tryz.prog 13 C_laws_eqIntsResult :=
  fn_calls (L := []) hT g_laws_eqIntsResult Tryz.f13 (by kernel_rfl) (by kernel_rfl) (by kernel_rfl) (plain_ok (by kernel_rfl)) r_laws_eqIntsResult
/-! laws.eqInt64SS -/
abbrev P_laws_eqInt64SS : List PK := [.val Y22, .val Y22]
abbrev R_laws_eqInt64SS : List VK := [.s (.dat .bool)]
abbrev i_laws_eqInt64SS_4 : Shp := { slots := [(0, .s (.dat Y22)), (1, .s (.dat Y22)), (5, .s (.dat YI))], boxes := [], rows := [] }
abbrev o_laws_eqInt64SS_4 : List (Ex × Shp) := [(.exit 0, { slots := [], boxes := [], rows := [] }), (.ret, { slots := [(4, .s (.dat .bool))], boxes := [], rows := [] })]
def l_laws_eqInt64SS_4 (rec : i_laws_eqInt64SS_4.den → Option (denO o_laws_eqInt64SS_4)) (u4 : i_laws_eqInt64SS_4.den) : Option (denO o_laws_eqInt64SS_4) :=
  let v6 := ((u4.1.1.length : Nat) : Int)
  if (ltI u4.1.2.2.1 v6) then
    if 0 ≤ u4.1.2.2.1 then
      ((u4.1.1)[(u4.1.2.2.1).toNat]?).bind fun y7 =>
      if 0 ≤ u4.1.2.2.1 then
        ((u4.1.2.1)[(u4.1.2.2.1).toNat]?).bind fun y8 =>
        (F_laws_eqInt64S (y7, y8, ())).bind fun r9 =>
        if (!r9.1.1) then
          some (.inr (.inl ((false, ()), ((), ()))))
        else
          let v10 := (IntKind.i64.wrap (u4.1.2.2.1 + (1 : Int)))
          rec ((u4.1.1, (u4.1.2.1, (v10, ()))), ((), ()))
      else none
    else none
  else
    some (.inl ((), ((), ())))
def L_laws_eqInt64SS_4 (x : i_laws_eqInt64SS_4.den) : Option (denO o_laws_eqInt64SS_4) := iterF l_laws_eqInt64SS_4 lots x
def F_laws_eqInt64SS (x : denP P_laws_eqInt64SS) : Option (denV R_laws_eqInt64SS × denQ P_laws_eqInt64SS) :=
  let v1 := ((x.1.length : Nat) : Int)
  let v2 := ((x.2.1.length : Nat) : Int)
  if (v1 != v2) then
    some ((false, ()), ())
  else
    (L_laws_eqInt64SS_4 ((x.1, (x.2.1, ((0 : Int), ()))), ((), ()))).bind fun z11 =>
    match z11 with
    | .inl x12 =>
      some ((true, ()), ())
    | .inr z11_ =>
      match z11_ with
      | .inl x13 =>
        some ((x13.1.1, ()), ())
      | .inr z11__ =>
        none
abbrev C_laws_eqInt64SS : Con := ⟨P_laws_eqInt64SS, R_laws_eqInt64SS, F_laws_eqInt64SS, false⟩
abbrev G_laws_eqInt64SS : Env := [(34, C_laws_eqInt64S)]
theorem g_laws_eqInt64SS : EnvOk Tryz.prog G_laws_eqInt64SS := (env_cons s_laws_eqInt64S env_nil)
abbrev c_laws_eqInt64SS_4 : Cut := ⟨i_laws_eqInt64SS_4, o_laws_eqInt64SS_4, fun x => iterF l_laws_eqInt64SS_4 lots x⟩
theorem t_laws_eqInt64SS_4 (rec x) : run T G_laws_eqInt64SS [] (nav Tryz.f26 [1, 1, 0, 1, 0, 0]) (mk 27 i_laws_eqInt64SS_4 x) (loopK i_laws_eqInt64SS_4 o_laws_eqInt64SS_4 rec) = l_laws_eqInt64SS_4 rec x := by kernel_rfl
theorem k_laws_eqInt64SS_4 : CutOk Tryz.prog 27 (.loop (nav Tryz.f26 [1, 1, 0, 1, 0, 0])) c_laws_eqInt64SS_4 :=
  loop_cut (L := []) hT g_laws_eqInt64SS t_laws_eqInt64SS_4 (plain_ok (by kernel_rfl)) _
theorem r_laws_eqInt64SS (x) : runFn T G_laws_eqInt64SS [(4, c_laws_eqInt64SS_4)] Tryz.f26 P_laws_eqInt64SS R_laws_eqInt64SS x = F_laws_eqInt64SS x := by kernel_rfl
theorem s_laws_eqInt64SS : CallsOk Tryz.prog 26 C_laws_eqInt64SS :=
  fn_calls (L := [(4, c_laws_eqInt64SS_4)]) hT g_laws_eqInt64SS Tryz.f26 (by kernel_rfl) (by kernel_rfl) (by kernel_rfl) (seq_ok (plain_ok (by kernel_rfl)) (seq_ok (plain_ok (by kernel_rfl)) (seq_ok (seq_ok (plain_ok (by kernel_rfl)) (block_ok (by kernel_rfl) (loop_ok (by kernel_rfl) k_laws_eqInt64SS_4))) (plain_ok (by kernel_rfl))))) r_laws_eqInt64SS
/-! laws.eqLane -/
abbrev P_laws_eqLane : List PK := [.val Y165, .val Y165]
abbrev R_laws_eqLane : List VK := [.s (.dat .bool)]
def F_laws_eqLane (x : denP P_laws_eqLane) : Option (denV R_laws_eqLane × denQ P_laws_eqLane) :=
  if (x.1.1 != x.2.1.1) then
    some ((false, ()), ())
  else
    if (x.1.2.1 != x.2.1.2.1) then
      some ((false, ()), ())
    else
      if (x.1.2.2.1 != x.2.1.2.2.1) then
        some ((false, ()), ())
      else
        if (x.1.2.2.2.1 != x.2.1.2.2.2.1) then
          some ((false, ()), ())
        else
          if (x.1.2.2.2.2.1 != x.2.1.2.2.2.2.1) then
            some ((false, ()), ())
          else
            some ((true, ()), ())
abbrev C_laws_eqLane : Con := ⟨P_laws_eqLane, R_laws_eqLane, F_laws_eqLane, false⟩
abbrev G_laws_eqLane : Env := []
theorem g_laws_eqLane : EnvOk Tryz.prog G_laws_eqLane := env_nil
theorem r_laws_eqLane (x) : runFn T G_laws_eqLane [] Tryz.f132 P_laws_eqLane R_laws_eqLane x = F_laws_eqLane x := by kernel_rfl
theorem s_laws_eqLane : CallsOk Tryz.prog 132 C_laws_eqLane :=
  fn_calls (L := []) hT g_laws_eqLane Tryz.f132 (by kernel_rfl) (by kernel_rfl) (by kernel_rfl) (plain_ok (by kernel_rfl)) r_laws_eqLane
/-! laws.eqLaneS -/
abbrev P_laws_eqLaneS : List PK := [.val Y23, .val Y23]
abbrev R_laws_eqLaneS : List VK := [.s (.dat .bool)]
abbrev i_laws_eqLaneS_4 : Shp := { slots := [(0, .s (.dat Y23)), (1, .s (.dat Y23)), (5, .s (.dat YI))], boxes := [], rows := [] }
abbrev o_laws_eqLaneS_4 : List (Ex × Shp) := [(.exit 0, { slots := [], boxes := [], rows := [] }), (.ret, { slots := [(4, .s (.dat .bool))], boxes := [], rows := [] })]
def l_laws_eqLaneS_4 (rec : i_laws_eqLaneS_4.den → Option (denO o_laws_eqLaneS_4)) (u4 : i_laws_eqLaneS_4.den) : Option (denO o_laws_eqLaneS_4) :=
  let v6 := ((u4.1.1.length : Nat) : Int)
  if (ltI u4.1.2.2.1 v6) then
    if 0 ≤ u4.1.2.2.1 then
      ((u4.1.1)[(u4.1.2.2.1).toNat]?).bind fun y7 =>
      if 0 ≤ u4.1.2.2.1 then
        ((u4.1.2.1)[(u4.1.2.2.1).toNat]?).bind fun y8 =>
        (F_laws_eqLane (y7, y8, ())).bind fun r9 =>
        if (!r9.1.1) then
          some (.inr (.inl ((false, ()), ((), ()))))
        else
          let v10 := (IntKind.i64.wrap (u4.1.2.2.1 + (1 : Int)))
          rec ((u4.1.1, (u4.1.2.1, (v10, ()))), ((), ()))
      else none
    else none
  else
    some (.inl ((), ((), ())))
def L_laws_eqLaneS_4 (x : i_laws_eqLaneS_4.den) : Option (denO o_laws_eqLaneS_4) := iterF l_laws_eqLaneS_4 lots x
def F_laws_eqLaneS (x : denP P_laws_eqLaneS) : Option (denV R_laws_eqLaneS × denQ P_laws_eqLaneS) :=
  let v1 := ((x.1.length : Nat) : Int)
  let v2 := ((x.2.1.length : Nat) : Int)
  if (v1 != v2) then
    some ((false, ()), ())
  else
    (L_laws_eqLaneS_4 ((x.1, (x.2.1, ((0 : Int), ()))), ((), ()))).bind fun z11 =>
    match z11 with
    | .inl x12 =>
      some ((true, ()), ())
    | .inr z11_ =>
      match z11_ with
      | .inl x13 =>
        some ((x13.1.1, ()), ())
      | .inr z11__ =>
        none
abbrev C_laws_eqLaneS : Con := ⟨P_laws_eqLaneS, R_laws_eqLaneS, F_laws_eqLaneS, false⟩
abbrev G_laws_eqLaneS : Env := [(132, C_laws_eqLane)]
theorem g_laws_eqLaneS : EnvOk Tryz.prog G_laws_eqLaneS := (env_cons s_laws_eqLane env_nil)
abbrev c_laws_eqLaneS_4 : Cut := ⟨i_laws_eqLaneS_4, o_laws_eqLaneS_4, fun x => iterF l_laws_eqLaneS_4 lots x⟩
theorem t_laws_eqLaneS_4 (rec x) : run T G_laws_eqLaneS [] (nav Tryz.f74 [1, 1, 0, 1, 0, 0]) (mk 27 i_laws_eqLaneS_4 x) (loopK i_laws_eqLaneS_4 o_laws_eqLaneS_4 rec) = l_laws_eqLaneS_4 rec x := by kernel_rfl
theorem k_laws_eqLaneS_4 : CutOk Tryz.prog 27 (.loop (nav Tryz.f74 [1, 1, 0, 1, 0, 0])) c_laws_eqLaneS_4 :=
  loop_cut (L := []) hT g_laws_eqLaneS t_laws_eqLaneS_4 (plain_ok (by kernel_rfl)) _
theorem r_laws_eqLaneS (x) : runFn T G_laws_eqLaneS [(4, c_laws_eqLaneS_4)] Tryz.f74 P_laws_eqLaneS R_laws_eqLaneS x = F_laws_eqLaneS x := by kernel_rfl
theorem s_laws_eqLaneS : CallsOk Tryz.prog 74 C_laws_eqLaneS :=
  fn_calls (L := [(4, c_laws_eqLaneS_4)]) hT g_laws_eqLaneS Tryz.f74 (by kernel_rfl) (by kernel_rfl) (by kernel_rfl) (seq_ok (plain_ok (by kernel_rfl)) (seq_ok (plain_ok (by kernel_rfl)) (seq_ok (seq_ok (plain_ok (by kernel_rfl)) (block_ok (by kernel_rfl) (loop_ok (by kernel_rfl) k_laws_eqLaneS_4))) (plain_ok (by kernel_rfl))))) r_laws_eqLaneS
/-! laws.eqBell -/
abbrev P_laws_eqBell : List PK := [.val Y99, .val Y99]
abbrev R_laws_eqBell : List VK := [.s (.dat .bool)]
def F_laws_eqBell (x : denP P_laws_eqBell) : Option (denV R_laws_eqBell × denQ P_laws_eqBell) :=
  if (x.1.1 != x.2.1.1) then
    some ((false, ()), ())
  else
    if (x.1.2.1 != x.2.1.2.1) then
      some ((false, ()), ())
    else
      some ((true, ()), ())
abbrev C_laws_eqBell : Con := ⟨P_laws_eqBell, R_laws_eqBell, F_laws_eqBell, false⟩
abbrev G_laws_eqBell : Env := []
theorem g_laws_eqBell : EnvOk Tryz.prog G_laws_eqBell := env_nil
theorem r_laws_eqBell (x) : runFn T G_laws_eqBell [] Tryz.f133 P_laws_eqBell R_laws_eqBell x = F_laws_eqBell x := by kernel_rfl
theorem s_laws_eqBell : CallsOk Tryz.prog 133 C_laws_eqBell :=
  fn_calls (L := []) hT g_laws_eqBell Tryz.f133 (by kernel_rfl) (by kernel_rfl) (by kernel_rfl) (plain_ok (by kernel_rfl)) r_laws_eqBell
/-! laws.eqBellS -/
abbrev P_laws_eqBellS : List PK := [.val Y24, .val Y24]
abbrev R_laws_eqBellS : List VK := [.s (.dat .bool)]
abbrev i_laws_eqBellS_4 : Shp := { slots := [(0, .s (.dat Y24)), (1, .s (.dat Y24)), (5, .s (.dat YI))], boxes := [], rows := [] }
abbrev o_laws_eqBellS_4 : List (Ex × Shp) := [(.exit 0, { slots := [], boxes := [], rows := [] }), (.ret, { slots := [(4, .s (.dat .bool))], boxes := [], rows := [] })]
def l_laws_eqBellS_4 (rec : i_laws_eqBellS_4.den → Option (denO o_laws_eqBellS_4)) (u4 : i_laws_eqBellS_4.den) : Option (denO o_laws_eqBellS_4) :=
  let v6 := ((u4.1.1.length : Nat) : Int)
  if (ltI u4.1.2.2.1 v6) then
    if 0 ≤ u4.1.2.2.1 then
      ((u4.1.1)[(u4.1.2.2.1).toNat]?).bind fun y7 =>
      if 0 ≤ u4.1.2.2.1 then
        ((u4.1.2.1)[(u4.1.2.2.1).toNat]?).bind fun y8 =>
        (F_laws_eqBell (y7, y8, ())).bind fun r9 =>
        if (!r9.1.1) then
          some (.inr (.inl ((false, ()), ((), ()))))
        else
          let v10 := (IntKind.i64.wrap (u4.1.2.2.1 + (1 : Int)))
          rec ((u4.1.1, (u4.1.2.1, (v10, ()))), ((), ()))
      else none
    else none
  else
    some (.inl ((), ((), ())))
def L_laws_eqBellS_4 (x : i_laws_eqBellS_4.den) : Option (denO o_laws_eqBellS_4) := iterF l_laws_eqBellS_4 lots x
def F_laws_eqBellS (x : denP P_laws_eqBellS) : Option (denV R_laws_eqBellS × denQ P_laws_eqBellS) :=
  let v1 := ((x.1.length : Nat) : Int)
  let v2 := ((x.2.1.length : Nat) : Int)
  if (v1 != v2) then
    some ((false, ()), ())
  else
    (L_laws_eqBellS_4 ((x.1, (x.2.1, ((0 : Int), ()))), ((), ()))).bind fun z11 =>
    match z11 with
    | .inl x12 =>
      some ((true, ()), ())
    | .inr z11_ =>
      match z11_ with
      | .inl x13 =>
        some ((x13.1.1, ()), ())
      | .inr z11__ =>
        none
abbrev C_laws_eqBellS : Con := ⟨P_laws_eqBellS, R_laws_eqBellS, F_laws_eqBellS, false⟩
abbrev G_laws_eqBellS : Env := [(133, C_laws_eqBell)]
theorem g_laws_eqBellS : EnvOk Tryz.prog G_laws_eqBellS := (env_cons s_laws_eqBell env_nil)
abbrev c_laws_eqBellS_4 : Cut := ⟨i_laws_eqBellS_4, o_laws_eqBellS_4, fun x => iterF l_laws_eqBellS_4 lots x⟩
theorem t_laws_eqBellS_4 (rec x) : run T G_laws_eqBellS [] (nav Tryz.f75 [1, 1, 0, 1, 0, 0]) (mk 27 i_laws_eqBellS_4 x) (loopK i_laws_eqBellS_4 o_laws_eqBellS_4 rec) = l_laws_eqBellS_4 rec x := by kernel_rfl
theorem k_laws_eqBellS_4 : CutOk Tryz.prog 27 (.loop (nav Tryz.f75 [1, 1, 0, 1, 0, 0])) c_laws_eqBellS_4 :=
  loop_cut (L := []) hT g_laws_eqBellS t_laws_eqBellS_4 (plain_ok (by kernel_rfl)) _
theorem r_laws_eqBellS (x) : runFn T G_laws_eqBellS [(4, c_laws_eqBellS_4)] Tryz.f75 P_laws_eqBellS R_laws_eqBellS x = F_laws_eqBellS x := by kernel_rfl
theorem s_laws_eqBellS : CallsOk Tryz.prog 75 C_laws_eqBellS :=
  fn_calls (L := [(4, c_laws_eqBellS_4)]) hT g_laws_eqBellS Tryz.f75 (by kernel_rfl) (by kernel_rfl) (by kernel_rfl) (seq_ok (plain_ok (by kernel_rfl)) (seq_ok (plain_ok (by kernel_rfl)) (seq_ok (seq_ok (plain_ok (by kernel_rfl)) (block_ok (by kernel_rfl) (loop_ok (by kernel_rfl) k_laws_eqBellS_4))) (plain_ok (by kernel_rfl))))) r_laws_eqBellS
/-! laws.eqSlot -/
abbrev P_laws_eqSlot : List PK := [.val Y99, .val Y99]
abbrev R_laws_eqSlot : List VK := [.s (.dat .bool)]
def F_laws_eqSlot (x : denP P_laws_eqSlot) : Option (denV R_laws_eqSlot × denQ P_laws_eqSlot) :=
  if (x.1.1 != x.2.1.1) then
    some ((false, ()), ())
  else
    if (x.1.2.1 != x.2.1.2.1) then
      some ((false, ()), ())
    else
      some ((true, ()), ())
abbrev C_laws_eqSlot : Con := ⟨P_laws_eqSlot, R_laws_eqSlot, F_laws_eqSlot, false⟩
abbrev G_laws_eqSlot : Env := []
theorem g_laws_eqSlot : EnvOk Tryz.prog G_laws_eqSlot := env_nil
theorem r_laws_eqSlot (x) : runFn T G_laws_eqSlot [] Tryz.f134 P_laws_eqSlot R_laws_eqSlot x = F_laws_eqSlot x := by kernel_rfl
theorem s_laws_eqSlot : CallsOk Tryz.prog 134 C_laws_eqSlot :=
  fn_calls (L := []) hT g_laws_eqSlot Tryz.f134 (by kernel_rfl) (by kernel_rfl) (by kernel_rfl) (plain_ok (by kernel_rfl)) r_laws_eqSlot
/-! laws.eqSlotS -/
abbrev P_laws_eqSlotS : List PK := [.val Y24, .val Y24]
abbrev R_laws_eqSlotS : List VK := [.s (.dat .bool)]
abbrev i_laws_eqSlotS_4 : Shp := { slots := [(0, .s (.dat Y24)), (1, .s (.dat Y24)), (5, .s (.dat YI))], boxes := [], rows := [] }
abbrev o_laws_eqSlotS_4 : List (Ex × Shp) := [(.exit 0, { slots := [], boxes := [], rows := [] }), (.ret, { slots := [(4, .s (.dat .bool))], boxes := [], rows := [] })]
def l_laws_eqSlotS_4 (rec : i_laws_eqSlotS_4.den → Option (denO o_laws_eqSlotS_4)) (u4 : i_laws_eqSlotS_4.den) : Option (denO o_laws_eqSlotS_4) :=
  let v6 := ((u4.1.1.length : Nat) : Int)
  if (ltI u4.1.2.2.1 v6) then
    if 0 ≤ u4.1.2.2.1 then
      ((u4.1.1)[(u4.1.2.2.1).toNat]?).bind fun y7 =>
      if 0 ≤ u4.1.2.2.1 then
        ((u4.1.2.1)[(u4.1.2.2.1).toNat]?).bind fun y8 =>
        (F_laws_eqSlot (y7, y8, ())).bind fun r9 =>
        if (!r9.1.1) then
          some (.inr (.inl ((false, ()), ((), ()))))
        else
          let v10 := (IntKind.i64.wrap (u4.1.2.2.1 + (1 : Int)))
          rec ((u4.1.1, (u4.1.2.1, (v10, ()))), ((), ()))
      else none
    else none
  else
    some (.inl ((), ((), ())))
def L_laws_eqSlotS_4 (x : i_laws_eqSlotS_4.den) : Option (denO o_laws_eqSlotS_4) := iterF l_laws_eqSlotS_4 lots x
def F_laws_eqSlotS (x : denP P_laws_eqSlotS) : Option (denV R_laws_eqSlotS × denQ P_laws_eqSlotS) :=
  let v1 := ((x.1.length : Nat) : Int)
  let v2 := ((x.2.1.length : Nat) : Int)
  if (v1 != v2) then
    some ((false, ()), ())
  else
    (L_laws_eqSlotS_4 ((x.1, (x.2.1, ((0 : Int), ()))), ((), ()))).bind fun z11 =>
    match z11 with
    | .inl x12 =>
      some ((true, ()), ())
    | .inr z11_ =>
      match z11_ with
      | .inl x13 =>
        some ((x13.1.1, ()), ())
      | .inr z11__ =>
        none
abbrev C_laws_eqSlotS : Con := ⟨P_laws_eqSlotS, R_laws_eqSlotS, F_laws_eqSlotS, false⟩
abbrev G_laws_eqSlotS : Env := [(134, C_laws_eqSlot)]
theorem g_laws_eqSlotS : EnvOk Tryz.prog G_laws_eqSlotS := (env_cons s_laws_eqSlot env_nil)
abbrev c_laws_eqSlotS_4 : Cut := ⟨i_laws_eqSlotS_4, o_laws_eqSlotS_4, fun x => iterF l_laws_eqSlotS_4 lots x⟩
theorem t_laws_eqSlotS_4 (rec x) : run T G_laws_eqSlotS [] (nav Tryz.f76 [1, 1, 0, 1, 0, 0]) (mk 27 i_laws_eqSlotS_4 x) (loopK i_laws_eqSlotS_4 o_laws_eqSlotS_4 rec) = l_laws_eqSlotS_4 rec x := by kernel_rfl
theorem k_laws_eqSlotS_4 : CutOk Tryz.prog 27 (.loop (nav Tryz.f76 [1, 1, 0, 1, 0, 0])) c_laws_eqSlotS_4 :=
  loop_cut (L := []) hT g_laws_eqSlotS t_laws_eqSlotS_4 (plain_ok (by kernel_rfl)) _
theorem r_laws_eqSlotS (x) : runFn T G_laws_eqSlotS [(4, c_laws_eqSlotS_4)] Tryz.f76 P_laws_eqSlotS R_laws_eqSlotS x = F_laws_eqSlotS x := by kernel_rfl
theorem s_laws_eqSlotS : CallsOk Tryz.prog 76 C_laws_eqSlotS :=
  fn_calls (L := [(4, c_laws_eqSlotS_4)]) hT g_laws_eqSlotS Tryz.f76 (by kernel_rfl) (by kernel_rfl) (by kernel_rfl) (seq_ok (plain_ok (by kernel_rfl)) (seq_ok (plain_ok (by kernel_rfl)) (seq_ok (seq_ok (plain_ok (by kernel_rfl)) (block_ok (by kernel_rfl) (loop_ok (by kernel_rfl) k_laws_eqSlotS_4))) (plain_ok (by kernel_rfl))))) r_laws_eqSlotS
/-! laws.eqPolicy -/
abbrev P_laws_eqPolicy : List PK := [.val Y26, .val Y26]
abbrev R_laws_eqPolicy : List VK := [.s (.dat .bool)]
def F_laws_eqPolicy (x : denP P_laws_eqPolicy) : Option (denV R_laws_eqPolicy × denQ P_laws_eqPolicy) :=
  (F_laws_eqInt64SS (x.1.1, x.2.1.1, ())).bind fun r1 =>
  if (!r1.1.1) then
    some ((false, ()), ())
  else
    (F_laws_eqLaneS (x.1.2.1, x.2.1.2.1, ())).bind fun r2 =>
    if (!r2.1.1) then
      some ((false, ()), ())
    else
      (F_laws_eqBellS (x.1.2.2.1, x.2.1.2.2.1, ())).bind fun r3 =>
      if (!r3.1.1) then
        some ((false, ()), ())
      else
        (F_laws_eqSlotS (x.1.2.2.2.1, x.2.1.2.2.2.1, ())).bind fun r4 =>
        if (!r4.1.1) then
          some ((false, ()), ())
        else
          some ((true, ()), ())
abbrev C_laws_eqPolicy : Con := ⟨P_laws_eqPolicy, R_laws_eqPolicy, F_laws_eqPolicy, false⟩
abbrev G_laws_eqPolicy : Env := [(26, C_laws_eqInt64SS), (74, C_laws_eqLaneS), (75, C_laws_eqBellS), (76, C_laws_eqSlotS)]
theorem g_laws_eqPolicy : EnvOk Tryz.prog G_laws_eqPolicy := (env_cons s_laws_eqInt64SS (env_cons s_laws_eqLaneS (env_cons s_laws_eqBellS (env_cons s_laws_eqSlotS env_nil))))
theorem r_laws_eqPolicy (x) : runFn T G_laws_eqPolicy [] Tryz.f25 P_laws_eqPolicy R_laws_eqPolicy x = F_laws_eqPolicy x := by kernel_rfl
theorem s_laws_eqPolicy : CallsOk Tryz.prog 25 C_laws_eqPolicy :=
  fn_calls (L := []) hT g_laws_eqPolicy Tryz.f25 (by kernel_rfl) (by kernel_rfl) (by kernel_rfl) (plain_ok (by kernel_rfl)) r_laws_eqPolicy
/-! laws.eqHart -/
abbrev P_laws_eqHart : List PK := [.val Y68, .val Y68]
abbrev R_laws_eqHart : List VK := [.s (.dat .bool)]
def F_laws_eqHart (x : denP P_laws_eqHart) : Option (denV R_laws_eqHart × denQ P_laws_eqHart) :=
  (F_laws_eqInt64S (x.1.1, x.2.1.1, ())).bind fun r1 =>
  if (!r1.1.1) then
    some ((false, ()), ())
  else
    if (x.1.2.1 != x.2.1.2.1) then
      some ((false, ()), ())
    else
      (F_laws_eqInt64S (x.1.2.2.1, x.2.1.2.2.1, ())).bind fun r2 =>
      if (!r2.1.1) then
        some ((false, ()), ())
      else
        if (!(x.1.2.2.2.1 == x.2.1.2.2.2.1)) then
          some ((false, ()), ())
        else
          if (!(x.1.2.2.2.2.1 == x.2.1.2.2.2.2.1)) then
            some ((false, ()), ())
          else
            if (!(x.1.2.2.2.2.2.1 == x.2.1.2.2.2.2.2.1)) then
              some ((false, ()), ())
            else
              if (x.1.2.2.2.2.2.2.1 != x.2.1.2.2.2.2.2.2.1) then
                some ((false, ()), ())
              else
                (F_laws_eqInt64S (x.1.2.2.2.2.2.2.2.1, x.2.1.2.2.2.2.2.2.2.1, ())).bind fun r3 =>
                if (!r3.1.1) then
                  some ((false, ()), ())
                else
                  (F_laws_eqInt64S (x.1.2.2.2.2.2.2.2.2.1, x.2.1.2.2.2.2.2.2.2.2.1, ())).bind fun r4 =>
                  if (!r4.1.1) then
                    some ((false, ()), ())
                  else
                    some ((true, ()), ())
abbrev C_laws_eqHart : Con := ⟨P_laws_eqHart, R_laws_eqHart, F_laws_eqHart, false⟩
abbrev G_laws_eqHart : Env := [(34, C_laws_eqInt64S)]
theorem g_laws_eqHart : EnvOk Tryz.prog G_laws_eqHart := (env_cons s_laws_eqInt64S env_nil)
theorem r_laws_eqHart (x) : runFn T G_laws_eqHart [] Tryz.f95 P_laws_eqHart R_laws_eqHart x = F_laws_eqHart x := by kernel_rfl
theorem s_laws_eqHart : CallsOk Tryz.prog 95 C_laws_eqHart :=
  fn_calls (L := []) hT g_laws_eqHart Tryz.f95 (by kernel_rfl) (by kernel_rfl) (by kernel_rfl) (plain_ok (by kernel_rfl)) r_laws_eqHart
/-! laws.eqHartS -/
abbrev P_laws_eqHartS : List PK := [.val Y29, .val Y29]
abbrev R_laws_eqHartS : List VK := [.s (.dat .bool)]
abbrev i_laws_eqHartS_4 : Shp := { slots := [(0, .s (.dat Y29)), (1, .s (.dat Y29)), (5, .s (.dat YI))], boxes := [], rows := [] }
abbrev o_laws_eqHartS_4 : List (Ex × Shp) := [(.exit 0, { slots := [], boxes := [], rows := [] }), (.ret, { slots := [(4, .s (.dat .bool))], boxes := [], rows := [] })]
def l_laws_eqHartS_4 (rec : i_laws_eqHartS_4.den → Option (denO o_laws_eqHartS_4)) (u4 : i_laws_eqHartS_4.den) : Option (denO o_laws_eqHartS_4) :=
  let v6 := ((u4.1.1.length : Nat) : Int)
  if (ltI u4.1.2.2.1 v6) then
    if 0 ≤ u4.1.2.2.1 then
      ((u4.1.1)[(u4.1.2.2.1).toNat]?).bind fun y7 =>
      if 0 ≤ u4.1.2.2.1 then
        ((u4.1.2.1)[(u4.1.2.2.1).toNat]?).bind fun y8 =>
        (F_laws_eqHart (y7, y8, ())).bind fun r9 =>
        if (!r9.1.1) then
          some (.inr (.inl ((false, ()), ((), ()))))
        else
          let v10 := (IntKind.i64.wrap (u4.1.2.2.1 + (1 : Int)))
          rec ((u4.1.1, (u4.1.2.1, (v10, ()))), ((), ()))
      else none
    else none
  else
    some (.inl ((), ((), ())))
def L_laws_eqHartS_4 (x : i_laws_eqHartS_4.den) : Option (denO o_laws_eqHartS_4) := iterF l_laws_eqHartS_4 lots x
def F_laws_eqHartS (x : denP P_laws_eqHartS) : Option (denV R_laws_eqHartS × denQ P_laws_eqHartS) :=
  let v1 := ((x.1.length : Nat) : Int)
  let v2 := ((x.2.1.length : Nat) : Int)
  if (v1 != v2) then
    some ((false, ()), ())
  else
    (L_laws_eqHartS_4 ((x.1, (x.2.1, ((0 : Int), ()))), ((), ()))).bind fun z11 =>
    match z11 with
    | .inl x12 =>
      some ((true, ()), ())
    | .inr z11_ =>
      match z11_ with
      | .inl x13 =>
        some ((x13.1.1, ()), ())
      | .inr z11__ =>
        none
abbrev C_laws_eqHartS : Con := ⟨P_laws_eqHartS, R_laws_eqHartS, F_laws_eqHartS, false⟩
abbrev G_laws_eqHartS : Env := [(95, C_laws_eqHart)]
theorem g_laws_eqHartS : EnvOk Tryz.prog G_laws_eqHartS := (env_cons s_laws_eqHart env_nil)
abbrev c_laws_eqHartS_4 : Cut := ⟨i_laws_eqHartS_4, o_laws_eqHartS_4, fun x => iterF l_laws_eqHartS_4 lots x⟩
theorem t_laws_eqHartS_4 (rec x) : run T G_laws_eqHartS [] (nav Tryz.f59 [1, 1, 0, 1, 0, 0]) (mk 27 i_laws_eqHartS_4 x) (loopK i_laws_eqHartS_4 o_laws_eqHartS_4 rec) = l_laws_eqHartS_4 rec x := by kernel_rfl
theorem k_laws_eqHartS_4 : CutOk Tryz.prog 27 (.loop (nav Tryz.f59 [1, 1, 0, 1, 0, 0])) c_laws_eqHartS_4 :=
  loop_cut (L := []) hT g_laws_eqHartS t_laws_eqHartS_4 (plain_ok (by kernel_rfl)) _
theorem r_laws_eqHartS (x) : runFn T G_laws_eqHartS [(4, c_laws_eqHartS_4)] Tryz.f59 P_laws_eqHartS R_laws_eqHartS x = F_laws_eqHartS x := by kernel_rfl
theorem s_laws_eqHartS : CallsOk Tryz.prog 59 C_laws_eqHartS :=
  fn_calls (L := [(4, c_laws_eqHartS_4)]) hT g_laws_eqHartS Tryz.f59 (by kernel_rfl) (by kernel_rfl) (by kernel_rfl) (seq_ok (plain_ok (by kernel_rfl)) (seq_ok (plain_ok (by kernel_rfl)) (seq_ok (seq_ok (plain_ok (by kernel_rfl)) (block_ok (by kernel_rfl) (loop_ok (by kernel_rfl) k_laws_eqHartS_4))) (plain_ok (by kernel_rfl))))) r_laws_eqHartS
/-! laws.eqHost -/
abbrev P_laws_eqHost : List PK := [.val Y30, .val Y30]
abbrev R_laws_eqHost : List VK := [.s (.dat .bool)]
def F_laws_eqHost (x : denP P_laws_eqHost) : Option (denV R_laws_eqHost × denQ P_laws_eqHost) :=
  (F_laws_eqPolicy (x.1.1, x.2.1.1, ())).bind fun r1 =>
  if (!r1.1.1) then
    some ((false, ()), ())
  else
    (F_laws_eqInt64S (x.1.2.1, x.2.1.2.1, ())).bind fun r2 =>
    if (!r2.1.1) then
      some ((false, ()), ())
    else
      (F_laws_eqHartS (x.1.2.2.1, x.2.1.2.2.1, ())).bind fun r3 =>
      if (!r3.1.1) then
        some ((false, ()), ())
      else
        if (x.1.2.2.2.1 != x.2.1.2.2.2.1) then
          some ((false, ()), ())
        else
          if (x.1.2.2.2.2.1 != x.2.1.2.2.2.2.1) then
            some ((false, ()), ())
          else
            if (x.1.2.2.2.2.2.1 != x.2.1.2.2.2.2.2.1) then
              some ((false, ()), ())
            else
              some ((true, ()), ())
abbrev C_laws_eqHost : Con := ⟨P_laws_eqHost, R_laws_eqHost, F_laws_eqHost, false⟩
abbrev G_laws_eqHost : Env := [(25, C_laws_eqPolicy), (34, C_laws_eqInt64S), (59, C_laws_eqHartS)]
theorem g_laws_eqHost : EnvOk Tryz.prog G_laws_eqHost := (env_cons s_laws_eqPolicy (env_cons s_laws_eqInt64S (env_cons s_laws_eqHartS env_nil)))
theorem r_laws_eqHost (x) : runFn T G_laws_eqHost [] Tryz.f14 P_laws_eqHost R_laws_eqHost x = F_laws_eqHost x := by kernel_rfl
theorem s_laws_eqHost : CallsOk Tryz.prog 14 C_laws_eqHost :=
  fn_calls (L := []) hT g_laws_eqHost Tryz.f14 (by kernel_rfl) (by kernel_rfl) (by kernel_rfl) (plain_ok (by kernel_rfl)) r_laws_eqHost
/-! laws.markInt64S -/
abbrev P_laws_markInt64S : List PK := [.row 2 YI, .val YI]
abbrev R_laws_markInt64S : List VK := [.s (.dat YI)]
abbrev i_laws_markInt64S_2 : Shp := { slots := [(0, .s (.ref 9000100)), (1, .s (.dat YI)), (5, .s (.dat YI))], boxes := [], rows := [(9000100, 2, YI)] }
abbrev o_laws_markInt64S_2 : List (Ex × Shp) := [(.exit 0, { slots := [(1, .s (.dat YI))], boxes := [], rows := [(9000100, 2, YI)] })]
def l_laws_markInt64S_2 (rec : i_laws_markInt64S_2.den → Option (denO o_laws_markInt64S_2)) (u2 : i_laws_markInt64S_2.den) : Option (denO o_laws_markInt64S_2) :=
  let v2 := ((u2.2.2.1.length : Nat) : Int)
  if (ltI u2.1.2.2.1 v2) then
    if 0 ≤ u2.1.2.2.1 ∧ u2.1.2.2.1 < ((u2.2.2.1.length : Nat) : Int) then
      ((u2.2.2.1)[(u2.1.2.2.1).toNat]?).bind fun y3 =>
      let v4 := (u2.2.2.1.set (u2.1.2.2.1).toNat u2.1.2.1)
      let v5 := (IntKind.i64.wrap (u2.1.2.1 + (1 : Int)))
      let v6 := (IntKind.i64.wrap (u2.1.2.2.1 + (1 : Int)))
      rec (((), (v5, (v6, ()))), ((), (v4, ())))
    else none
  else
    some (.inl ((u2.1.2.1, ()), ((), (u2.2.2.1, ()))))
def L_laws_markInt64S_2 (x : i_laws_markInt64S_2.den) : Option (denO o_laws_markInt64S_2) := iterF l_laws_markInt64S_2 lots x
def F_laws_markInt64S (x : denP P_laws_markInt64S) : Option (denV R_laws_markInt64S × denQ P_laws_markInt64S) :=
  (L_laws_markInt64S_2 (((), (x.2.1, ((0 : Int), ()))), ((), (x.1, ())))).bind fun z7 =>
  match z7 with
  | .inl x8 =>
    if (x.1.length == x8.2.2.1.length && true) = true then
      some ((x8.1.1, ()), (x8.2.2.1, ()))
    else none
  | .inr z7_ =>
    none
abbrev C_laws_markInt64S : Con := ⟨P_laws_markInt64S, R_laws_markInt64S, F_laws_markInt64S, false⟩
abbrev G_laws_markInt64S : Env := []
theorem g_laws_markInt64S : EnvOk Tryz.prog G_laws_markInt64S := env_nil
abbrev c_laws_markInt64S_2 : Cut := ⟨i_laws_markInt64S_2, o_laws_markInt64S_2, fun x => iterF l_laws_markInt64S_2 lots x⟩
theorem t_laws_markInt64S_2 (rec x) : run T G_laws_markInt64S [] (nav Tryz.f35 [1, 0, 1, 0, 0]) (mk 19 i_laws_markInt64S_2 x) (loopK i_laws_markInt64S_2 o_laws_markInt64S_2 rec) = l_laws_markInt64S_2 rec x := by kernel_rfl
theorem k_laws_markInt64S_2 : CutOk Tryz.prog 19 (.loop (nav Tryz.f35 [1, 0, 1, 0, 0])) c_laws_markInt64S_2 :=
  loop_cut (L := []) hT g_laws_markInt64S t_laws_markInt64S_2 (plain_ok (by kernel_rfl)) _
theorem r_laws_markInt64S (x) : runFn T G_laws_markInt64S [(2, c_laws_markInt64S_2)] Tryz.f35 P_laws_markInt64S R_laws_markInt64S x = F_laws_markInt64S x := by kernel_rfl
theorem s_laws_markInt64S : CallsOk Tryz.prog 35 C_laws_markInt64S :=
  fn_calls (L := [(2, c_laws_markInt64S_2)]) hT g_laws_markInt64S Tryz.f35 (by kernel_rfl) (by kernel_rfl) (by kernel_rfl) (seq_ok (plain_ok (by kernel_rfl)) (seq_ok (seq_ok (plain_ok (by kernel_rfl)) (block_ok (by kernel_rfl) (loop_ok (by kernel_rfl) k_laws_markInt64S_2))) (plain_ok (by kernel_rfl)))) r_laws_markInt64S
/-! laws.markInt64SS -/
abbrev P_laws_markInt64SS : List PK := [.row 1000003000028 Y28, .val YI]
abbrev R_laws_markInt64SS : List VK := [.s (.dat YI)]
abbrev i_laws_markInt64SS_2 : Shp := { slots := [(0, .s (.ref 9000100)), (1, .s (.dat YI)), (5, .s (.dat YI))], boxes := [], rows := [(9000100, 1000003000028, Y28)] }
abbrev o_laws_markInt64SS_2 : List (Ex × Shp) := [(.exit 0, { slots := [(1, .s (.dat YI))], boxes := [], rows := [(9000100, 1000003000028, Y28)] })]
def l_laws_markInt64SS_2 (rec : i_laws_markInt64SS_2.den → Option (denO o_laws_markInt64SS_2)) (u2 : i_laws_markInt64SS_2.den) : Option (denO o_laws_markInt64SS_2) :=
  let v4 := ((u2.2.2.1.length : Nat) : Int)
  if (ltI u2.1.2.2.1 v4) then
    if 0 ≤ u2.1.2.2.1 ∧ u2.1.2.2.1 < ((u2.2.2.1.length : Nat) : Int) then
      ((u2.2.2.1)[(u2.1.2.2.1).toNat]?).bind fun y5 =>
      ((u2.2.2.1)[(u2.1.2.2.1).toNat]?).bind fun y6 =>
      (F_laws_markInt64S (y6, u2.1.2.1, ())).bind fun r7 =>
      if r7.2.1.length = y6.length then
        let v8 := (IntKind.i64.wrap (u2.1.2.2.1 + (1 : Int)))
        rec (((), (r7.1.1, (v8, ()))), ((), ((u2.2.2.1.set (u2.1.2.2.1).toNat r7.2.1), ())))
      else none
    else none
  else
    some (.inl ((u2.1.2.1, ()), ((), (u2.2.2.1, ()))))
def L_laws_markInt64SS_2 (x : i_laws_markInt64SS_2.den) : Option (denO o_laws_markInt64SS_2) := iterF l_laws_markInt64SS_2 lots x
def F_laws_markInt64SS (x : denP P_laws_markInt64SS) : Option (denV R_laws_markInt64SS × denQ P_laws_markInt64SS) :=
  (L_laws_markInt64SS_2 (((), (x.2.1, ((0 : Int), ()))), ((), (x.1, ())))).bind fun z9 =>
  match z9 with
  | .inl x10 =>
    if (x.1.length == x10.2.2.1.length && true) = true then
      some ((x10.1.1, ()), (x10.2.2.1, ()))
    else none
  | .inr z9_ =>
    none
abbrev C_laws_markInt64SS : Con := ⟨P_laws_markInt64SS, R_laws_markInt64SS, F_laws_markInt64SS, false⟩
abbrev G_laws_markInt64SS : Env := [(35, C_laws_markInt64S)]
theorem g_laws_markInt64SS : EnvOk Tryz.prog G_laws_markInt64SS := (env_cons s_laws_markInt64S env_nil)
abbrev c_laws_markInt64SS_2 : Cut := ⟨i_laws_markInt64SS_2, o_laws_markInt64SS_2, fun x => iterF l_laws_markInt64SS_2 lots x⟩
theorem t_laws_markInt64SS_2 (rec x) : run T G_laws_markInt64SS [] (nav Tryz.f28 [1, 0, 1, 0, 0]) (mk 19 i_laws_markInt64SS_2 x) (loopK i_laws_markInt64SS_2 o_laws_markInt64SS_2 rec) = l_laws_markInt64SS_2 rec x := by kernel_rfl
theorem k_laws_markInt64SS_2 : CutOk Tryz.prog 19 (.loop (nav Tryz.f28 [1, 0, 1, 0, 0])) c_laws_markInt64SS_2 :=
  loop_cut (L := []) hT g_laws_markInt64SS t_laws_markInt64SS_2 (plain_ok (by kernel_rfl)) _
theorem r_laws_markInt64SS (x) : runFn T G_laws_markInt64SS [(2, c_laws_markInt64SS_2)] Tryz.f28 P_laws_markInt64SS R_laws_markInt64SS x = F_laws_markInt64SS x := by kernel_rfl
theorem s_laws_markInt64SS : CallsOk Tryz.prog 28 C_laws_markInt64SS :=
  fn_calls (L := [(2, c_laws_markInt64SS_2)]) hT g_laws_markInt64SS Tryz.f28 (by kernel_rfl) (by kernel_rfl) (by kernel_rfl) (seq_ok (plain_ok (by kernel_rfl)) (seq_ok (seq_ok (plain_ok (by kernel_rfl)) (block_ok (by kernel_rfl) (loop_ok (by kernel_rfl) k_laws_markInt64SS_2))) (plain_ok (by kernel_rfl)))) r_laws_markInt64SS
/-! laws.markLaneS -/
abbrev P_laws_markLaneS : List PK := [.row 166 Y165, .val YI]
abbrev R_laws_markLaneS : List VK := [.s (.dat YI)]
abbrev i_laws_markLaneS_2 : Shp := { slots := [(0, .s (.ref 9000100)), (1, .s (.dat YI)), (5, .s (.dat YI))], boxes := [], rows := [(9000100, 166, Y165)] }
abbrev o_laws_markLaneS_2 : List (Ex × Shp) := [(.exit 0, { slots := [(1, .s (.dat YI))], boxes := [], rows := [(9000100, 166, Y165)] })]
def l_laws_markLaneS_2 (rec : i_laws_markLaneS_2.den → Option (denO o_laws_markLaneS_2)) (u2 : i_laws_markLaneS_2.den) : Option (denO o_laws_markLaneS_2) :=
  let v6 := ((u2.2.2.1.length : Nat) : Int)
  if (ltI u2.1.2.2.1 v6) then
    if 0 ≤ u2.1.2.2.1 ∧ u2.1.2.2.1 < ((u2.2.2.1.length : Nat) : Int) then
      ((u2.2.2.1)[(u2.1.2.2.1).toNat]?).bind fun y7 =>
      let v8 := (u2.2.2.1.set (u2.1.2.2.1).toNat (u2.1.2.1, y7.2))
      let v9 := (IntKind.i64.wrap (u2.1.2.1 + (1 : Int)))
      if 0 ≤ u2.1.2.2.1 ∧ u2.1.2.2.1 < ((v8.length : Nat) : Int) then
        ((v8)[(u2.1.2.2.1).toNat]?).bind fun y10 =>
        let v11 := (v8.set (u2.1.2.2.1).toNat (y10.1, (v9, y10.2.2)))
        let v12 := (IntKind.i64.wrap (v9 + (1 : Int)))
        if 0 ≤ u2.1.2.2.1 ∧ u2.1.2.2.1 < ((v11.length : Nat) : Int) then
          ((v11)[(u2.1.2.2.1).toNat]?).bind fun y13 =>
          let v14 := (v11.set (u2.1.2.2.1).toNat (y13.1, (y13.2.1, (v12, y13.2.2.2))))
          let v15 := (IntKind.i64.wrap (v12 + (1 : Int)))
          if 0 ≤ u2.1.2.2.1 ∧ u2.1.2.2.1 < ((v14.length : Nat) : Int) then
            ((v14)[(u2.1.2.2.1).toNat]?).bind fun y16 =>
            let v17 := (v14.set (u2.1.2.2.1).toNat (y16.1, (y16.2.1, (y16.2.2.1, (v15, y16.2.2.2.2)))))
            let v18 := (IntKind.i64.wrap (v15 + (1 : Int)))
            if 0 ≤ u2.1.2.2.1 ∧ u2.1.2.2.1 < ((v17.length : Nat) : Int) then
              ((v17)[(u2.1.2.2.1).toNat]?).bind fun y19 =>
              let v20 := (v17.set (u2.1.2.2.1).toNat (y19.1, (y19.2.1, (y19.2.2.1, (y19.2.2.2.1, (v18, y19.2.2.2.2.2))))))
              let v21 := (IntKind.i64.wrap (v18 + (1 : Int)))
              let v22 := (IntKind.i64.wrap (u2.1.2.2.1 + (1 : Int)))
              rec (((), (v21, (v22, ()))), ((), (v20, ())))
            else none
          else none
        else none
      else none
    else none
  else
    some (.inl ((u2.1.2.1, ()), ((), (u2.2.2.1, ()))))
def L_laws_markLaneS_2 (x : i_laws_markLaneS_2.den) : Option (denO o_laws_markLaneS_2) := iterF l_laws_markLaneS_2 lots x
def F_laws_markLaneS (x : denP P_laws_markLaneS) : Option (denV R_laws_markLaneS × denQ P_laws_markLaneS) :=
  (L_laws_markLaneS_2 (((), (x.2.1, ((0 : Int), ()))), ((), (x.1, ())))).bind fun z23 =>
  match z23 with
  | .inl x24 =>
    if (x.1.length == x24.2.2.1.length && true) = true then
      some ((x24.1.1, ()), (x24.2.2.1, ()))
    else none
  | .inr z23_ =>
    none
abbrev C_laws_markLaneS : Con := ⟨P_laws_markLaneS, R_laws_markLaneS, F_laws_markLaneS, false⟩
abbrev G_laws_markLaneS : Env := []
theorem g_laws_markLaneS : EnvOk Tryz.prog G_laws_markLaneS := env_nil
abbrev c_laws_markLaneS_2 : Cut := ⟨i_laws_markLaneS_2, o_laws_markLaneS_2, fun x => iterF l_laws_markLaneS_2 lots x⟩
theorem t_laws_markLaneS_2 (rec x) : run T G_laws_markLaneS [] (nav Tryz.f77 [1, 0, 1, 0, 0]) (mk 48 i_laws_markLaneS_2 x) (loopK i_laws_markLaneS_2 o_laws_markLaneS_2 rec) = l_laws_markLaneS_2 rec x := by kernel_rfl
theorem k_laws_markLaneS_2 : CutOk Tryz.prog 48 (.loop (nav Tryz.f77 [1, 0, 1, 0, 0])) c_laws_markLaneS_2 :=
  loop_cut (L := []) hT g_laws_markLaneS t_laws_markLaneS_2 (plain_ok (by kernel_rfl)) _
theorem r_laws_markLaneS (x) : runFn T G_laws_markLaneS [(2, c_laws_markLaneS_2)] Tryz.f77 P_laws_markLaneS R_laws_markLaneS x = F_laws_markLaneS x := by kernel_rfl
theorem s_laws_markLaneS : CallsOk Tryz.prog 77 C_laws_markLaneS :=
  fn_calls (L := [(2, c_laws_markLaneS_2)]) hT g_laws_markLaneS Tryz.f77 (by kernel_rfl) (by kernel_rfl) (by kernel_rfl) (seq_ok (plain_ok (by kernel_rfl)) (seq_ok (seq_ok (plain_ok (by kernel_rfl)) (block_ok (by kernel_rfl) (loop_ok (by kernel_rfl) k_laws_markLaneS_2))) (plain_ok (by kernel_rfl)))) r_laws_markLaneS
/-! laws.markBellS -/
abbrev P_laws_markBellS : List PK := [.row 170 Y99, .val YI]
abbrev R_laws_markBellS : List VK := [.s (.dat YI)]
abbrev i_laws_markBellS_2 : Shp := { slots := [(0, .s (.ref 9000100)), (1, .s (.dat YI)), (5, .s (.dat YI))], boxes := [], rows := [(9000100, 170, Y99)] }
abbrev o_laws_markBellS_2 : List (Ex × Shp) := [(.exit 0, { slots := [(1, .s (.dat YI))], boxes := [], rows := [(9000100, 170, Y99)] })]
def l_laws_markBellS_2 (rec : i_laws_markBellS_2.den → Option (denO o_laws_markBellS_2)) (u2 : i_laws_markBellS_2.den) : Option (denO o_laws_markBellS_2) :=
  let v3 := ((u2.2.2.1.length : Nat) : Int)
  if (ltI u2.1.2.2.1 v3) then
    if 0 ≤ u2.1.2.2.1 ∧ u2.1.2.2.1 < ((u2.2.2.1.length : Nat) : Int) then
      ((u2.2.2.1)[(u2.1.2.2.1).toNat]?).bind fun y4 =>
      let v5 := (u2.2.2.1.set (u2.1.2.2.1).toNat (u2.1.2.1, y4.2))
      let v6 := (IntKind.i64.wrap (u2.1.2.1 + (1 : Int)))
      if 0 ≤ u2.1.2.2.1 ∧ u2.1.2.2.1 < ((v5.length : Nat) : Int) then
        ((v5)[(u2.1.2.2.1).toNat]?).bind fun y7 =>
        let v8 := (v5.set (u2.1.2.2.1).toNat (y7.1, (v6, y7.2.2)))
        let v9 := (IntKind.i64.wrap (v6 + (1 : Int)))
        let v10 := (IntKind.i64.wrap (u2.1.2.2.1 + (1 : Int)))
        rec (((), (v9, (v10, ()))), ((), (v8, ())))
      else none
    else none
  else
    some (.inl ((u2.1.2.1, ()), ((), (u2.2.2.1, ()))))
def L_laws_markBellS_2 (x : i_laws_markBellS_2.den) : Option (denO o_laws_markBellS_2) := iterF l_laws_markBellS_2 lots x
def F_laws_markBellS (x : denP P_laws_markBellS) : Option (denV R_laws_markBellS × denQ P_laws_markBellS) :=
  (L_laws_markBellS_2 (((), (x.2.1, ((0 : Int), ()))), ((), (x.1, ())))).bind fun z11 =>
  match z11 with
  | .inl x12 =>
    if (x.1.length == x12.2.2.1.length && true) = true then
      some ((x12.1.1, ()), (x12.2.2.1, ()))
    else none
  | .inr z11_ =>
    none
abbrev C_laws_markBellS : Con := ⟨P_laws_markBellS, R_laws_markBellS, F_laws_markBellS, false⟩
abbrev G_laws_markBellS : Env := []
theorem g_laws_markBellS : EnvOk Tryz.prog G_laws_markBellS := env_nil
abbrev c_laws_markBellS_2 : Cut := ⟨i_laws_markBellS_2, o_laws_markBellS_2, fun x => iterF l_laws_markBellS_2 lots x⟩
theorem t_laws_markBellS_2 (rec x) : run T G_laws_markBellS [] (nav Tryz.f78 [1, 0, 1, 0, 0]) (mk 27 i_laws_markBellS_2 x) (loopK i_laws_markBellS_2 o_laws_markBellS_2 rec) = l_laws_markBellS_2 rec x := by kernel_rfl
theorem k_laws_markBellS_2 : CutOk Tryz.prog 27 (.loop (nav Tryz.f78 [1, 0, 1, 0, 0])) c_laws_markBellS_2 :=
  loop_cut (L := []) hT g_laws_markBellS t_laws_markBellS_2 (plain_ok (by kernel_rfl)) _
theorem r_laws_markBellS (x) : runFn T G_laws_markBellS [(2, c_laws_markBellS_2)] Tryz.f78 P_laws_markBellS R_laws_markBellS x = F_laws_markBellS x := by kernel_rfl
theorem s_laws_markBellS : CallsOk Tryz.prog 78 C_laws_markBellS :=
  fn_calls (L := [(2, c_laws_markBellS_2)]) hT g_laws_markBellS Tryz.f78 (by kernel_rfl) (by kernel_rfl) (by kernel_rfl) (seq_ok (plain_ok (by kernel_rfl)) (seq_ok (seq_ok (plain_ok (by kernel_rfl)) (block_ok (by kernel_rfl) (loop_ok (by kernel_rfl) k_laws_markBellS_2))) (plain_ok (by kernel_rfl)))) r_laws_markBellS
/-! laws.markSlotS -/
abbrev P_laws_markSlotS : List PK := [.row 100 Y99, .val YI]
abbrev R_laws_markSlotS : List VK := [.s (.dat YI)]
abbrev i_laws_markSlotS_2 : Shp := { slots := [(0, .s (.ref 9000100)), (1, .s (.dat YI)), (5, .s (.dat YI))], boxes := [], rows := [(9000100, 100, Y99)] }
abbrev o_laws_markSlotS_2 : List (Ex × Shp) := [(.exit 0, { slots := [(1, .s (.dat YI))], boxes := [], rows := [(9000100, 100, Y99)] })]
def l_laws_markSlotS_2 (rec : i_laws_markSlotS_2.den → Option (denO o_laws_markSlotS_2)) (u2 : i_laws_markSlotS_2.den) : Option (denO o_laws_markSlotS_2) :=
  let v3 := ((u2.2.2.1.length : Nat) : Int)
  if (ltI u2.1.2.2.1 v3) then
    if 0 ≤ u2.1.2.2.1 ∧ u2.1.2.2.1 < ((u2.2.2.1.length : Nat) : Int) then
      ((u2.2.2.1)[(u2.1.2.2.1).toNat]?).bind fun y4 =>
      let v5 := (u2.2.2.1.set (u2.1.2.2.1).toNat (u2.1.2.1, y4.2))
      let v6 := (IntKind.i64.wrap (u2.1.2.1 + (1 : Int)))
      if 0 ≤ u2.1.2.2.1 ∧ u2.1.2.2.1 < ((v5.length : Nat) : Int) then
        ((v5)[(u2.1.2.2.1).toNat]?).bind fun y7 =>
        let v8 := (v5.set (u2.1.2.2.1).toNat (y7.1, (v6, y7.2.2)))
        let v9 := (IntKind.i64.wrap (v6 + (1 : Int)))
        let v10 := (IntKind.i64.wrap (u2.1.2.2.1 + (1 : Int)))
        rec (((), (v9, (v10, ()))), ((), (v8, ())))
      else none
    else none
  else
    some (.inl ((u2.1.2.1, ()), ((), (u2.2.2.1, ()))))
def L_laws_markSlotS_2 (x : i_laws_markSlotS_2.den) : Option (denO o_laws_markSlotS_2) := iterF l_laws_markSlotS_2 lots x
def F_laws_markSlotS (x : denP P_laws_markSlotS) : Option (denV R_laws_markSlotS × denQ P_laws_markSlotS) :=
  (L_laws_markSlotS_2 (((), (x.2.1, ((0 : Int), ()))), ((), (x.1, ())))).bind fun z11 =>
  match z11 with
  | .inl x12 =>
    if (x.1.length == x12.2.2.1.length && true) = true then
      some ((x12.1.1, ()), (x12.2.2.1, ()))
    else none
  | .inr z11_ =>
    none
abbrev C_laws_markSlotS : Con := ⟨P_laws_markSlotS, R_laws_markSlotS, F_laws_markSlotS, false⟩
abbrev G_laws_markSlotS : Env := []
theorem g_laws_markSlotS : EnvOk Tryz.prog G_laws_markSlotS := env_nil
abbrev c_laws_markSlotS_2 : Cut := ⟨i_laws_markSlotS_2, o_laws_markSlotS_2, fun x => iterF l_laws_markSlotS_2 lots x⟩
theorem t_laws_markSlotS_2 (rec x) : run T G_laws_markSlotS [] (nav Tryz.f79 [1, 0, 1, 0, 0]) (mk 27 i_laws_markSlotS_2 x) (loopK i_laws_markSlotS_2 o_laws_markSlotS_2 rec) = l_laws_markSlotS_2 rec x := by kernel_rfl
theorem k_laws_markSlotS_2 : CutOk Tryz.prog 27 (.loop (nav Tryz.f79 [1, 0, 1, 0, 0])) c_laws_markSlotS_2 :=
  loop_cut (L := []) hT g_laws_markSlotS t_laws_markSlotS_2 (plain_ok (by kernel_rfl)) _
theorem r_laws_markSlotS (x) : runFn T G_laws_markSlotS [(2, c_laws_markSlotS_2)] Tryz.f79 P_laws_markSlotS R_laws_markSlotS x = F_laws_markSlotS x := by kernel_rfl
theorem s_laws_markSlotS : CallsOk Tryz.prog 79 C_laws_markSlotS :=
  fn_calls (L := [(2, c_laws_markSlotS_2)]) hT g_laws_markSlotS Tryz.f79 (by kernel_rfl) (by kernel_rfl) (by kernel_rfl) (seq_ok (plain_ok (by kernel_rfl)) (seq_ok (seq_ok (plain_ok (by kernel_rfl)) (block_ok (by kernel_rfl) (loop_ok (by kernel_rfl) k_laws_markSlotS_2))) (plain_ok (by kernel_rfl)))) r_laws_markSlotS
/-! laws.markPolicy -/
abbrev P_laws_markPolicy : List PK := [.agg [.own 3000028 Y28, .own 166 Y165, .own 170 Y99, .own 100 Y99], .val YI]
abbrev R_laws_markPolicy : List VK := [.s (.dat YI)]
def F_laws_markPolicy (x : denP P_laws_markPolicy) : Option (denV R_laws_markPolicy × denQ P_laws_markPolicy) :=
  (F_laws_markInt64SS (x.1.1, x.2.1, ())).bind fun r1 =>
  if ((x.1.1.length == r1.2.1.length && true) && true) = true then
    (F_laws_markLaneS (x.1.2.1, r1.1.1, ())).bind fun r2 =>
    if ((x.1.2.1.length == r2.2.1.length && true) && true) = true then
      (F_laws_markBellS (x.1.2.2.1, r2.1.1, ())).bind fun r3 =>
      if ((x.1.2.2.1.length == r3.2.1.length && true) && true) = true then
        (F_laws_markSlotS (x.1.2.2.2.1, r3.1.1, ())).bind fun r4 =>
        if ((x.1.2.2.2.1.length == r4.2.1.length && true) && true) = true then
          if ((x.1.1.length == r1.2.1.length && (x.1.2.1.length == r2.2.1.length && (x.1.2.2.1.length == r3.2.1.length && (x.1.2.2.2.1.length == r4.2.1.length && true)))) && true) = true then
            some ((r4.1.1, ()), ((r1.2.1, (r2.2.1, (r3.2.1, (r4.2.1, ())))), ()))
          else none
        else none
      else none
    else none
  else none
abbrev C_laws_markPolicy : Con := ⟨P_laws_markPolicy, R_laws_markPolicy, F_laws_markPolicy, false⟩
abbrev G_laws_markPolicy : Env := [(28, C_laws_markInt64SS), (77, C_laws_markLaneS), (78, C_laws_markBellS), (79, C_laws_markSlotS)]
theorem g_laws_markPolicy : EnvOk Tryz.prog G_laws_markPolicy := (env_cons s_laws_markInt64SS (env_cons s_laws_markLaneS (env_cons s_laws_markBellS (env_cons s_laws_markSlotS env_nil))))
theorem r_laws_markPolicy (x) : runFn T G_laws_markPolicy [] Tryz.f27 P_laws_markPolicy R_laws_markPolicy x = F_laws_markPolicy x := by kernel_rfl
theorem s_laws_markPolicy : CallsOk Tryz.prog 27 C_laws_markPolicy :=
  fn_calls (L := []) hT g_laws_markPolicy Tryz.f27 (by kernel_rfl) (by kernel_rfl) (by kernel_rfl) (plain_ok (by kernel_rfl)) r_laws_markPolicy
/-! laws.markHartS -/
abbrev P_laws_markHartS : List PK := [.row 1000003000074 Y68, .val YI]
abbrev R_laws_markHartS : List VK := [.s (.dat YI)]
abbrev i_laws_markHartS_2 : Shp := { slots := [(0, .s (.ref 9000100)), (1, .s (.dat YI)), (5, .s (.dat YI))], boxes := [], rows := [(9000100, 1000003000074, Y68)] }
abbrev o_laws_markHartS_2 : List (Ex × Shp) := [(.exit 0, { slots := [(1, .s (.dat YI))], boxes := [], rows := [(9000100, 1000003000074, Y68)] })]
def l_laws_markHartS_2 (rec : i_laws_markHartS_2.den → Option (denO o_laws_markHartS_2)) (u2 : i_laws_markHartS_2.den) : Option (denO o_laws_markHartS_2) :=
  let v18 := ((u2.2.2.1.length : Nat) : Int)
  if (ltI u2.1.2.2.1 v18) then
    if 0 ≤ u2.1.2.2.1 ∧ u2.1.2.2.1 < ((u2.2.2.1.length : Nat) : Int) then
      ((u2.2.2.1)[(u2.1.2.2.1).toNat]?).bind fun y19 =>
      ((u2.2.2.1)[(u2.1.2.2.1).toNat]?).bind fun y20 =>
      (F_laws_markInt64S (y20.1, u2.1.2.1, ())).bind fun r21 =>
      if r21.2.1.length = y20.1.length then
        if 0 ≤ u2.1.2.2.1 ∧ u2.1.2.2.1 < (((u2.2.2.1.set (u2.1.2.2.1).toNat (r21.2.1, y20.2)).length : Nat) : Int) then
          (((u2.2.2.1.set (u2.1.2.2.1).toNat (r21.2.1, y20.2)))[(u2.1.2.2.1).toNat]?).bind fun y22 =>
          let v23 := ((u2.2.2.1.set (u2.1.2.2.1).toNat (r21.2.1, y20.2)).set (u2.1.2.2.1).toNat (y22.1, (r21.1.1, y22.2.2)))
          let v24 := (IntKind.i64.wrap (r21.1.1 + (1 : Int)))
          if 0 ≤ u2.1.2.2.1 ∧ u2.1.2.2.1 < ((v23.length : Nat) : Int) then
            ((v23)[(u2.1.2.2.1).toNat]?).bind fun y25 =>
            ((v23)[(u2.1.2.2.1).toNat]?).bind fun y26 =>
            (F_laws_markInt64S (y26.2.2.1, v24, ())).bind fun r27 =>
            if r27.2.1.length = y26.2.2.1.length then
              let v28 := ((r27.1.1).tmod (3 : Int))
              if 0 ≤ u2.1.2.2.1 ∧ u2.1.2.2.1 < (((v23.set (u2.1.2.2.1).toNat (y26.1, (y26.2.1, (r27.2.1, y26.2.2.2)))).length : Nat) : Int) then
                (((v23.set (u2.1.2.2.1).toNat (y26.1, (y26.2.1, (r27.2.1, y26.2.2.2)))))[(u2.1.2.2.1).toNat]?).bind fun y29 =>
                let v30 := ((v23.set (u2.1.2.2.1).toNat (y26.1, (y26.2.1, (r27.2.1, y26.2.2.2)))).set (u2.1.2.2.1).toNat (y29.1, (y29.2.1, (y29.2.2.1, ((v28 == (0 : Int)), y29.2.2.2.2)))))
                let v31 := (IntKind.i64.wrap (r27.1.1 + (1 : Int)))
                let v32 := ((v31).tmod (3 : Int))
                if 0 ≤ u2.1.2.2.1 ∧ u2.1.2.2.1 < ((v30.length : Nat) : Int) then
                  ((v30)[(u2.1.2.2.1).toNat]?).bind fun y33 =>
                  let v34 := (v30.set (u2.1.2.2.1).toNat (y33.1, (y33.2.1, (y33.2.2.1, (y33.2.2.2.1, ((v32 == (0 : Int)), y33.2.2.2.2.2))))))
                  let v35 := (IntKind.i64.wrap (v31 + (1 : Int)))
                  let v36 := ((v35).tmod (3 : Int))
                  if 0 ≤ u2.1.2.2.1 ∧ u2.1.2.2.1 < ((v34.length : Nat) : Int) then
                    ((v34)[(u2.1.2.2.1).toNat]?).bind fun y37 =>
                    let v38 := (v34.set (u2.1.2.2.1).toNat (y37.1, (y37.2.1, (y37.2.2.1, (y37.2.2.2.1, (y37.2.2.2.2.1, ((v36 == (0 : Int)), y37.2.2.2.2.2.2)))))))
                    let v39 := (IntKind.i64.wrap (v35 + (1 : Int)))
                    if 0 ≤ u2.1.2.2.1 ∧ u2.1.2.2.1 < ((v38.length : Nat) : Int) then
                      ((v38)[(u2.1.2.2.1).toNat]?).bind fun y40 =>
                      let v41 := (v38.set (u2.1.2.2.1).toNat (y40.1, (y40.2.1, (y40.2.2.1, (y40.2.2.2.1, (y40.2.2.2.2.1, (y40.2.2.2.2.2.1, (v39, y40.2.2.2.2.2.2.2))))))))
                      let v42 := (IntKind.i64.wrap (v39 + (1 : Int)))
                      if 0 ≤ u2.1.2.2.1 ∧ u2.1.2.2.1 < ((v41.length : Nat) : Int) then
                        ((v41)[(u2.1.2.2.1).toNat]?).bind fun y43 =>
                        ((v41)[(u2.1.2.2.1).toNat]?).bind fun y44 =>
                        (F_laws_markInt64S (y44.2.2.2.2.2.2.2.1, v42, ())).bind fun r45 =>
                        if r45.2.1.length = y44.2.2.2.2.2.2.2.1.length then
                          if 0 ≤ u2.1.2.2.1 ∧ u2.1.2.2.1 < (((v41.set (u2.1.2.2.1).toNat (y44.1, (y44.2.1, (y44.2.2.1, (y44.2.2.2.1, (y44.2.2.2.2.1, (y44.2.2.2.2.2.1, (y44.2.2.2.2.2.2.1, (r45.2.1, y44.2.2.2.2.2.2.2.2))))))))).length : Nat) : Int) then
                            (((v41.set (u2.1.2.2.1).toNat (y44.1, (y44.2.1, (y44.2.2.1, (y44.2.2.2.1, (y44.2.2.2.2.1, (y44.2.2.2.2.2.1, (y44.2.2.2.2.2.2.1, (r45.2.1, y44.2.2.2.2.2.2.2.2))))))))))[(u2.1.2.2.1).toNat]?).bind fun y46 =>
                            (((v41.set (u2.1.2.2.1).toNat (y44.1, (y44.2.1, (y44.2.2.1, (y44.2.2.2.1, (y44.2.2.2.2.1, (y44.2.2.2.2.2.1, (y44.2.2.2.2.2.2.1, (r45.2.1, y44.2.2.2.2.2.2.2.2))))))))))[(u2.1.2.2.1).toNat]?).bind fun y47 =>
                            (F_laws_markInt64S (y47.2.2.2.2.2.2.2.2.1, r45.1.1, ())).bind fun r48 =>
                            if r48.2.1.length = y47.2.2.2.2.2.2.2.2.1.length then
                              let v49 := (IntKind.i64.wrap (u2.1.2.2.1 + (1 : Int)))
                              rec (((), (r48.1.1, (v49, ()))), ((), (((v41.set (u2.1.2.2.1).toNat (y44.1, (y44.2.1, (y44.2.2.1, (y44.2.2.2.1, (y44.2.2.2.2.1, (y44.2.2.2.2.2.1, (y44.2.2.2.2.2.2.1, (r45.2.1, y44.2.2.2.2.2.2.2.2))))))))).set (u2.1.2.2.1).toNat (y47.1, (y47.2.1, (y47.2.2.1, (y47.2.2.2.1, (y47.2.2.2.2.1, (y47.2.2.2.2.2.1, (y47.2.2.2.2.2.2.1, (y47.2.2.2.2.2.2.2.1, (r48.2.1, y47.2.2.2.2.2.2.2.2.2)))))))))), ())))
                            else none
                          else none
                        else none
                      else none
                    else none
                  else none
                else none
              else none
            else none
          else none
        else none
      else none
    else none
  else
    some (.inl ((u2.1.2.1, ()), ((), (u2.2.2.1, ()))))
def L_laws_markHartS_2 (x : i_laws_markHartS_2.den) : Option (denO o_laws_markHartS_2) := iterF l_laws_markHartS_2 lots x
def F_laws_markHartS (x : denP P_laws_markHartS) : Option (denV R_laws_markHartS × denQ P_laws_markHartS) :=
  (L_laws_markHartS_2 (((), (x.2.1, ((0 : Int), ()))), ((), (x.1, ())))).bind fun z50 =>
  match z50 with
  | .inl x51 =>
    if (x.1.length == x51.2.2.1.length && true) = true then
      some ((x51.1.1, ()), (x51.2.2.1, ()))
    else none
  | .inr z50_ =>
    none
abbrev C_laws_markHartS : Con := ⟨P_laws_markHartS, R_laws_markHartS, F_laws_markHartS, false⟩
abbrev G_laws_markHartS : Env := [(35, C_laws_markInt64S)]
theorem g_laws_markHartS : EnvOk Tryz.prog G_laws_markHartS := (env_cons s_laws_markInt64S env_nil)
abbrev c_laws_markHartS_2 : Cut := ⟨i_laws_markHartS_2, o_laws_markHartS_2, fun x => iterF l_laws_markHartS_2 lots x⟩
theorem t_laws_markHartS_2 (rec x) : run T G_laws_markHartS [] (nav Tryz.f60 [1, 0, 1, 0, 0]) (mk 82 i_laws_markHartS_2 x) (loopK i_laws_markHartS_2 o_laws_markHartS_2 rec) = l_laws_markHartS_2 rec x := by kernel_rfl
theorem k_laws_markHartS_2 : CutOk Tryz.prog 82 (.loop (nav Tryz.f60 [1, 0, 1, 0, 0])) c_laws_markHartS_2 :=
  loop_cut (L := []) hT g_laws_markHartS t_laws_markHartS_2 (plain_ok (by kernel_rfl)) _
theorem r_laws_markHartS (x) : runFn T G_laws_markHartS [(2, c_laws_markHartS_2)] Tryz.f60 P_laws_markHartS R_laws_markHartS x = F_laws_markHartS x := by kernel_rfl
theorem s_laws_markHartS : CallsOk Tryz.prog 60 C_laws_markHartS :=
  fn_calls (L := [(2, c_laws_markHartS_2)]) hT g_laws_markHartS Tryz.f60 (by kernel_rfl) (by kernel_rfl) (by kernel_rfl) (seq_ok (plain_ok (by kernel_rfl)) (seq_ok (seq_ok (plain_ok (by kernel_rfl)) (block_ok (by kernel_rfl) (loop_ok (by kernel_rfl) k_laws_markHartS_2))) (plain_ok (by kernel_rfl)))) r_laws_markHartS
/-! laws.markHost -/
abbrev P_laws_markHost : List PK := [.agg [.own 3000028 Y28, .own 166 Y165, .own 170 Y99, .own 100 Y99, .own 2 YI, .own 3000074 Y68, .dat YI, .dat YI, .dat YI], .val YI]
abbrev R_laws_markHost : List VK := [.s (.dat YI)]
def F_laws_markHost (x : denP P_laws_markHost) : Option (denV R_laws_markHost × denQ P_laws_markHost) :=
  (F_laws_markPolicy ((x.1.1, (x.1.2.1, (x.1.2.2.1, (x.1.2.2.2.1, ())))), x.2.1, ())).bind fun r1 =>
  if (((x.1.1.length == r1.2.1.1.length && (x.1.2.1.length == r1.2.1.2.1.length && (x.1.2.2.1.length == r1.2.1.2.2.1.length && (x.1.2.2.2.1.length == r1.2.1.2.2.2.1.length && true)))) && true) && true) = true then
    (F_laws_markInt64S (x.1.2.2.2.2.1, r1.1.1, ())).bind fun r2 =>
    if ((x.1.2.2.2.2.1.length == r2.2.1.length && true) && true) = true then
      (F_laws_markHartS (x.1.2.2.2.2.2.1, r2.1.1, ())).bind fun r3 =>
      if ((x.1.2.2.2.2.2.1.length == r3.2.1.length && true) && true) = true then
        if ((x.1.1.length == r1.2.1.1.length && (x.1.2.1.length == r1.2.1.2.1.length && (x.1.2.2.1.length == r1.2.1.2.2.1.length && (x.1.2.2.2.1.length == r1.2.1.2.2.2.1.length && (x.1.2.2.2.2.1.length == r2.2.1.length && (x.1.2.2.2.2.2.1.length == r3.2.1.length && true)))))) && true) = true then
          some ((r3.1.1, ()), ((r1.2.1.1, (r1.2.1.2.1, (r1.2.1.2.2.1, (r1.2.1.2.2.2.1, (r2.2.1, (r3.2.1, ())))))), ()))
        else none
      else none
    else none
  else none
abbrev C_laws_markHost : Con := ⟨P_laws_markHost, R_laws_markHost, F_laws_markHost, false⟩
abbrev G_laws_markHost : Env := [(27, C_laws_markPolicy), (35, C_laws_markInt64S), (60, C_laws_markHartS)]
theorem g_laws_markHost : EnvOk Tryz.prog G_laws_markHost := (env_cons s_laws_markPolicy (env_cons s_laws_markInt64S (env_cons s_laws_markHartS env_nil)))
theorem r_laws_markHost (x) : runFn T G_laws_markHost [] Tryz.f15 P_laws_markHost R_laws_markHost x = F_laws_markHost x := by kernel_rfl
theorem s_laws_markHost : CallsOk Tryz.prog 15 C_laws_markHost :=
  fn_calls (L := []) hT g_laws_markHost Tryz.f15 (by kernel_rfl) (by kernel_rfl) (by kernel_rfl) (plain_ok (by kernel_rfl)) r_laws_markHost
/-! laws.markIntsResult -/
abbrev P_laws_markIntsResult : List PK := [.agg [.dat YI, .own 2 YI], .val YI]
abbrev R_laws_markIntsResult : List VK := [.s (.dat YI)]
def F_laws_markIntsResult (x : denP P_laws_markIntsResult) : Option (denV R_laws_markIntsResult × denQ P_laws_markIntsResult) :=
  (F_laws_markInt64S (x.1.2.1, x.2.1, ())).bind fun r1 =>
  if ((x.1.2.1.length == r1.2.1.length && true) && true) = true then
    if ((x.1.2.1.length == r1.2.1.length && true) && true) = true then
      some ((r1.1.1, ()), ((r1.2.1, ()), ()))
    else none
  else none
abbrev C_laws_markIntsResult : Con := ⟨P_laws_markIntsResult, R_laws_markIntsResult, F_laws_markIntsResult, false⟩
abbrev G_laws_markIntsResult : Env := [(35, C_laws_markInt64S)]
theorem g_laws_markIntsResult : EnvOk Tryz.prog G_laws_markIntsResult := (env_cons s_laws_markInt64S env_nil)
theorem r_laws_markIntsResult (x) : runFn T G_laws_markIntsResult [] Tryz.f16 P_laws_markIntsResult R_laws_markIntsResult x = F_laws_markIntsResult x := by kernel_rfl
theorem s_laws_markIntsResult : CallsOk Tryz.prog 16 C_laws_markIntsResult :=
  fn_calls (L := []) hT g_laws_markIntsResult Tryz.f16 (by kernel_rfl) (by kernel_rfl) (by kernel_rfl) (plain_ok (by kernel_rfl)) r_laws_markIntsResult
/-! laws.heldInt64S -/
abbrev P_laws_heldInt64S : List PK := [.val Y28, .val YI]
abbrev R_laws_heldInt64S : List VK := [.s (.dat YI)]
abbrev i_laws_heldInt64S_2 : Shp := { slots := [(0, .s (.dat Y28)), (1, .s (.dat YI)), (5, .s (.dat YI))], boxes := [], rows := [] }
abbrev o_laws_heldInt64S_2 : List (Ex × Shp) := [(.exit 0, { slots := [(1, .s (.dat YI))], boxes := [], rows := [] }), (.ret, { slots := [(4, .s (.dat YI))], boxes := [], rows := [] })]
def l_laws_heldInt64S_2 (rec : i_laws_heldInt64S_2.den → Option (denO o_laws_heldInt64S_2)) (u2 : i_laws_heldInt64S_2.den) : Option (denO o_laws_heldInt64S_2) :=
  let v2 := ((u2.1.1.length : Nat) : Int)
  if (ltI u2.1.2.2.1 v2) then
    if 0 ≤ u2.1.2.2.1 then
      ((u2.1.1)[(u2.1.2.2.1).toNat]?).bind fun y3 =>
      if (y3 != u2.1.2.1) then
        some (.inr (.inl (((-1 : Int), ()), ((), ()))))
      else
        let v4 := (IntKind.i64.wrap (u2.1.2.1 + (1 : Int)))
        let v5 := (IntKind.i64.wrap (u2.1.2.2.1 + (1 : Int)))
        rec ((u2.1.1, (v4, (v5, ()))), ((), ()))
    else none
  else
    some (.inl ((u2.1.2.1, ()), ((), ())))
def L_laws_heldInt64S_2 (x : i_laws_heldInt64S_2.den) : Option (denO o_laws_heldInt64S_2) := iterF l_laws_heldInt64S_2 lots x
def F_laws_heldInt64S (x : denP P_laws_heldInt64S) : Option (denV R_laws_heldInt64S × denQ P_laws_heldInt64S) :=
  (L_laws_heldInt64S_2 ((x.1, (x.2.1, ((0 : Int), ()))), ((), ()))).bind fun z6 =>
  match z6 with
  | .inl x7 =>
    some ((x7.1.1, ()), ())
  | .inr z6_ =>
    match z6_ with
    | .inl x8 =>
      some ((x8.1.1, ()), ())
    | .inr z6__ =>
      none
abbrev C_laws_heldInt64S : Con := ⟨P_laws_heldInt64S, R_laws_heldInt64S, F_laws_heldInt64S, false⟩
abbrev G_laws_heldInt64S : Env := []
theorem g_laws_heldInt64S : EnvOk Tryz.prog G_laws_heldInt64S := env_nil
abbrev c_laws_heldInt64S_2 : Cut := ⟨i_laws_heldInt64S_2, o_laws_heldInt64S_2, fun x => iterF l_laws_heldInt64S_2 lots x⟩
theorem t_laws_heldInt64S_2 (rec x) : run T G_laws_heldInt64S [] (nav Tryz.f61 [1, 0, 1, 0, 0]) (mk 21 i_laws_heldInt64S_2 x) (loopK i_laws_heldInt64S_2 o_laws_heldInt64S_2 rec) = l_laws_heldInt64S_2 rec x := by kernel_rfl
theorem k_laws_heldInt64S_2 : CutOk Tryz.prog 21 (.loop (nav Tryz.f61 [1, 0, 1, 0, 0])) c_laws_heldInt64S_2 :=
  loop_cut (L := []) hT g_laws_heldInt64S t_laws_heldInt64S_2 (plain_ok (by kernel_rfl)) _
theorem r_laws_heldInt64S (x) : runFn T G_laws_heldInt64S [(2, c_laws_heldInt64S_2)] Tryz.f61 P_laws_heldInt64S R_laws_heldInt64S x = F_laws_heldInt64S x := by kernel_rfl
theorem s_laws_heldInt64S : CallsOk Tryz.prog 61 C_laws_heldInt64S :=
  fn_calls (L := [(2, c_laws_heldInt64S_2)]) hT g_laws_heldInt64S Tryz.f61 (by kernel_rfl) (by kernel_rfl) (by kernel_rfl) (seq_ok (plain_ok (by kernel_rfl)) (seq_ok (seq_ok (plain_ok (by kernel_rfl)) (block_ok (by kernel_rfl) (loop_ok (by kernel_rfl) k_laws_heldInt64S_2))) (plain_ok (by kernel_rfl)))) r_laws_heldInt64S
/-! laws.heldIntsResult -/
abbrev P_laws_heldIntsResult : List PK := [.val Y33, .val YI]
abbrev R_laws_heldIntsResult : List VK := [.s (.dat YI)]
def F_laws_heldIntsResult (x : denP P_laws_heldIntsResult) : Option (denV R_laws_heldIntsResult × denQ P_laws_heldIntsResult) :=
  (F_laws_heldInt64S (x.1.2.1, x.2.1, ())).bind fun r1 =>
  if (ltI r1.1.1 (0 : Int)) then
    some (((-1 : Int), ()), ())
  else
    some ((r1.1.1, ()), ())
abbrev C_laws_heldIntsResult : Con := ⟨P_laws_heldIntsResult, R_laws_heldIntsResult, F_laws_heldIntsResult, false⟩
abbrev G_laws_heldIntsResult : Env := [(61, C_laws_heldInt64S)]
theorem g_laws_heldIntsResult : EnvOk Tryz.prog G_laws_heldIntsResult := (env_cons s_laws_heldInt64S env_nil)
theorem r_laws_heldIntsResult (x) : runFn T G_laws_heldIntsResult [] Tryz.f17 P_laws_heldIntsResult R_laws_heldIntsResult x = F_laws_heldIntsResult x := by kernel_rfl
theorem s_laws_heldIntsResult : CallsOk Tryz.prog 17 C_laws_heldIntsResult :=
  fn_calls (L := []) hT g_laws_heldIntsResult Tryz.f17 (by kernel_rfl) (by kernel_rfl) (by kernel_rfl) (plain_ok (by kernel_rfl)) r_laws_heldIntsResult
/-! laws.FnExactTraceOf -/
abbrev P_laws_FnExactTraceOf : List PK := [.val Y30, .val YI]
abbrev R_laws_FnExactTraceOf : List VK := [.s (.dat .bool)]
def F_laws_FnExactTraceOf (x : denP P_laws_FnExactTraceOf) : Option (denV R_laws_FnExactTraceOf × denQ P_laws_FnExactTraceOf) :=
  (F_laws_szHost (x.1, (1048576 : Int), ())).bind fun r1 =>
  if (ltI r1.1.1 (0 : Int)) then
    some ((true, ()), ())
  else
    (F_laws_toHost (x.1, ())).bind fun r2 =>
    (F_spec_TraceOf (((r2.1.1.1, (r2.1.1.2.1, (r2.1.1.2.2.1, (r2.1.1.2.2.2.1, ())))), (r2.1.1.2.2.2.2.1, (r2.1.1.2.2.2.2.2.1, (r2.1.1.2.2.2.2.2.2.1, (r2.1.1.2.2.2.2.2.2.2.1, (r2.1.1.2.2.2.2.2.2.2.2.1, ())))))), x.2.1, ())).bind fun r3 =>
    (F_laws_toHost (x.1, ())).bind fun r4 =>
    (F_impl_TraceOf (((r4.1.1.1, (r4.1.1.2.1, (r4.1.1.2.2.1, (r4.1.1.2.2.2.1, ())))), (r4.1.1.2.2.2.2.1, (r4.1.1.2.2.2.2.2.1, (r4.1.1.2.2.2.2.2.2.1, (r4.1.1.2.2.2.2.2.2.2.1, (r4.1.1.2.2.2.2.2.2.2.2.1, ())))))), x.2.1, ())).bind fun r5 =>
    (F_laws_eqIntsResult ((r5.1.1.1, (r5.1.1.2.1, ())), (r3.1.1.1, (r3.1.1.2.1, ())), ())).bind fun r6 =>
    if (!r6.1.1) then
      some ((false, ()), ())
    else
      (F_laws_toHost (x.1, ())).bind fun r7 =>
      (F_laws_eqHost (((r4.1.1.1, (r4.1.1.2.1, (r4.1.1.2.2.1, (r4.1.1.2.2.2.1, ())))), (r4.1.1.2.2.2.2.1, (r4.1.1.2.2.2.2.2.1, (r4.1.1.2.2.2.2.2.2.1, (r4.1.1.2.2.2.2.2.2.2.1, (r4.1.1.2.2.2.2.2.2.2.2.1, ())))))), ((r7.1.1.1, (r7.1.1.2.1, (r7.1.1.2.2.1, (r7.1.1.2.2.2.1, ())))), (r7.1.1.2.2.2.2.1, (r7.1.1.2.2.2.2.2.1, (r7.1.1.2.2.2.2.2.2.1, (r7.1.1.2.2.2.2.2.2.2.1, (r7.1.1.2.2.2.2.2.2.2.2.1, ())))))), ())).bind fun r8 =>
      if (!r8.1.1) then
        some ((false, ()), ())
      else
        (F_laws_markHost ((r4.1.1.1, (r4.1.1.2.1, (r4.1.1.2.2.1, (r4.1.1.2.2.2.1, (r4.1.1.2.2.2.2.1, (r4.1.1.2.2.2.2.2.1, (r4.1.1.2.2.2.2.2.2.1, (r4.1.1.2.2.2.2.2.2.2.1, (r4.1.1.2.2.2.2.2.2.2.2.1, ()))))))))), (1 : Int), ())).bind fun r9 =>
        if (((r4.1.1.1.length == r9.2.1.1.length && (r4.1.1.2.1.length == r9.2.1.2.1.length && (r4.1.1.2.2.1.length == r9.2.1.2.2.1.length && (r4.1.1.2.2.2.1.length == r9.2.1.2.2.2.1.length && (r4.1.1.2.2.2.2.1.length == r9.2.1.2.2.2.2.1.length && (r4.1.1.2.2.2.2.2.1.length == r9.2.1.2.2.2.2.2.1.length && true)))))) && true) && true) = true then
          if (ltI r9.1.1 (0 : Int)) = false then
            (F_laws_eqIntsResult ((r5.1.1.1, (r5.1.1.2.1, ())), (r3.1.1.1, (r3.1.1.2.1, ())), ())).bind fun r10 =>
            if (!r10.1.1) then
              some ((false, ()), ())
            else
              (F_laws_markIntsResult ((r5.1.1.1, (r5.1.1.2.1, ())), (1 : Int), ())).bind fun r11 =>
              if (((r5.1.1.2.1.length == r11.2.1.1.length && true) && true) && true) = true then
                (F_laws_heldIntsResult ((r5.1.1.1, (r11.2.1.1, ())), (1 : Int), ())).bind fun r12 =>
                if (ltI r12.1.1 (0 : Int)) then
                  some ((false, ()), ())
                else
                  if (r12.1.1 != r11.1.1) then
                    some ((false, ()), ())
                  else
                    (F_laws_toHost (x.1, ())).bind fun r13 =>
                    (F_impl_TraceOf (((r13.1.1.1, (r13.1.1.2.1, (r13.1.1.2.2.1, (r13.1.1.2.2.2.1, ())))), (r13.1.1.2.2.2.2.1, (r13.1.1.2.2.2.2.2.1, (r13.1.1.2.2.2.2.2.2.1, (r13.1.1.2.2.2.2.2.2.2.1, (r13.1.1.2.2.2.2.2.2.2.2.1, ())))))), x.2.1, ())).bind fun r14 =>
                    (F_laws_eqIntsResult ((r14.1.1.1, (r14.1.1.2.1, ())), (r3.1.1.1, (r3.1.1.2.1, ())), ())).bind fun r15 =>
                    if (!r15.1.1) then
                      some ((false, ()), ())
                    else
                      (F_laws_heldIntsResult ((r5.1.1.1, (r11.2.1.1, ())), (1 : Int), ())).bind fun r16 =>
                      if (ltI r16.1.1 (0 : Int)) then
                        some ((false, ()), ())
                      else
                        if (r16.1.1 != r11.1.1) then
                          some ((false, ()), ())
                        else
                          some ((true, ()), ())
              else none
          else
            some ((false, ()), ())
        else none
abbrev C_laws_FnExactTraceOf : Con := ⟨P_laws_FnExactTraceOf, R_laws_FnExactTraceOf, F_laws_FnExactTraceOf, false⟩
abbrev G_laws_FnExactTraceOf : Env := [(9, C_laws_szHost), (10, C_spec_TraceOf), (11, C_laws_toHost), (12, C_impl_TraceOf), (13, C_laws_eqIntsResult), (14, C_laws_eqHost), (15, C_laws_markHost), (16, C_laws_markIntsResult), (17, C_laws_heldIntsResult)]
theorem g_laws_FnExactTraceOf : EnvOk Tryz.prog G_laws_FnExactTraceOf := (env_cons s_laws_szHost (env_cons s_spec_TraceOf (env_cons s_laws_toHost (env_cons s_impl_TraceOf (env_cons s_laws_eqIntsResult (env_cons s_laws_eqHost (env_cons s_laws_markHost (env_cons s_laws_markIntsResult (env_cons s_laws_heldIntsResult env_nil)))))))))
theorem r_laws_FnExactTraceOf (x) : runFn T G_laws_FnExactTraceOf [] Tryz.f3 P_laws_FnExactTraceOf R_laws_FnExactTraceOf x = F_laws_FnExactTraceOf x := by kernel_rfl
theorem s_laws_FnExactTraceOf : CallsOk Tryz.prog 3 C_laws_FnExactTraceOf :=
  fn_calls (L := []) hT g_laws_FnExactTraceOf Tryz.f3 (by kernel_rfl) (by kernel_rfl) (by kernel_rfl) (plain_ok (by kernel_rfl)) r_laws_FnExactTraceOf
theorem q_laws_FnExactTraceOf : Sound Tryz.prog 3 C_laws_FnExactTraceOf :=
  fn_snd (L := []) hT g_laws_FnExactTraceOf Tryz.f3 (by kernel_rfl) (by kernel_rfl) (plain_ok (by kernel_rfl)) r_laws_FnExactTraceOf
end Go.Proofs.YtimbcpeilkaahaaGreat
