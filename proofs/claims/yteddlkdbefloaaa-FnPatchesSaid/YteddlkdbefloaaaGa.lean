/- The functions of the laws, each as a plain function of data (F), and that the program's text does what F says. Printed by a program (wip/tools/gen.py). -/
import Derived.Test.YteddlkdbefloaaaGt
namespace Go.Proofs.Yteddlkdbefloaaa
open Go Go.RowKit S Go.Proofs
set_option maxRecDepth 100000
set_option linter.unusedVariables false
/-! laws.toInt64S -/
abbrev P_laws_toInt64S : List PK := [.val Y22]
abbrev R_laws_toInt64S : List VK := [.s (.own 2 YI)]
abbrev i_laws_toInt64S_3 : Shp := { slots := [(0, .s (.dat Y22)), (3, .s (.own 2 YI)), (4, .s (.dat YI))], boxes := [], rows := [] }
abbrev o_laws_toInt64S_3 : List (Ex × Shp) := [(.exit 0, { slots := [(3, .s (.own 2 YI))], boxes := [], rows := [] })]
def l_laws_toInt64S_3 (rec : i_laws_toInt64S_3.den → Option (denO o_laws_toInt64S_3)) (u3 : i_laws_toInt64S_3.den) : Option (denO o_laws_toInt64S_3) :=
  let v4 := ((u3.1.1.length : Nat) : Int)
  if (ltI u3.1.2.2.1 v4) then
    if 0 ≤ u3.1.2.2.1 then
      ((u3.1.1)[(u3.1.2.2.1).toNat]?).bind fun y5 =>
      if 0 ≤ u3.1.2.2.1 ∧ u3.1.2.2.1 < ((u3.1.2.1.length : Nat) : Int) then
        ((u3.1.2.1)[(u3.1.2.2.1).toNat]?).bind fun y6 =>
        let v7 := (u3.1.2.1.set (u3.1.2.2.1).toNat y5)
        let v8 := (IntKind.i64.wrap (u3.1.2.2.1 + (1 : Int)))
        rec ((u3.1.1, (v7, (v8, ()))), ((), ()))
      else none
    else none
  else
    some (.inl ((u3.1.2.1, ()), ((), ())))
def L_laws_toInt64S_3 (x : i_laws_toInt64S_3.den) : Option (denO o_laws_toInt64S_3) := iterF l_laws_toInt64S_3 lots x
def F_laws_toInt64S (x : denP P_laws_toInt64S) : Option (denV R_laws_toInt64S × denQ P_laws_toInt64S) :=
  let v1 := ((x.1.length : Nat) : Int)
  if v1 = v1 ∧ 0 ≤ v1 ∧ v1 * 8 ≤ 140737488355328 ∧ v1 ≤ 9223372036854775807 then
    (L_laws_toInt64S_3 ((x.1, ((List.replicate (v1).toNat (zeroD YI)), ((0 : Int), ()))), ((), ()))).bind fun z9 =>
    match z9 with
    | .inl x10 =>
      some ((x10.1.1, ()), ())
    | .inr z9_ =>
      none
  else none
abbrev C_laws_toInt64S : Con := ⟨P_laws_toInt64S, R_laws_toInt64S, F_laws_toInt64S, false⟩
abbrev G_laws_toInt64S : Env := []
theorem g_laws_toInt64S : EnvOk Try.prog G_laws_toInt64S := env_nil
abbrev c_laws_toInt64S_3 : Cut := ⟨i_laws_toInt64S_3, o_laws_toInt64S_3, fun x => iterF l_laws_toInt64S_3 lots x⟩
theorem t_laws_toInt64S_3 (rec x) : run T G_laws_toInt64S [] (nav Try.f15 [1, 1, 0, 1, 0, 0]) (mk 22 i_laws_toInt64S_3 x) (loopK i_laws_toInt64S_3 o_laws_toInt64S_3 rec) = l_laws_toInt64S_3 rec x := by kernel_rfl
theorem k_laws_toInt64S_3 : CutOk Try.prog 22 (.loop (nav Try.f15 [1, 1, 0, 1, 0, 0])) c_laws_toInt64S_3 :=
  loop_cut (L := []) hT g_laws_toInt64S t_laws_toInt64S_3 (plain_ok (by kernel_rfl)) _
theorem r_laws_toInt64S (x) : runFn T G_laws_toInt64S [(3, c_laws_toInt64S_3)] Try.f15 P_laws_toInt64S R_laws_toInt64S x = F_laws_toInt64S x := by kernel_rfl
theorem s_laws_toInt64S : CallsOk Try.prog 15 C_laws_toInt64S :=
  fn_calls (L := [(3, c_laws_toInt64S_3)]) hT g_laws_toInt64S Try.f15 (by kernel_rfl) (by kernel_rfl) (by kernel_rfl) (seq_ok (plain_ok (by kernel_rfl)) (seq_ok (plain_ok (by kernel_rfl)) (seq_ok (seq_ok (plain_ok (by kernel_rfl)) (block_ok (by kernel_rfl) (loop_ok (by kernel_rfl) k_laws_toInt64S_3))) (plain_ok (by kernel_rfl))))) r_laws_toInt64S
/-! spec.l1In -/
abbrev P_spec_l1In : List PK := [.val YI, .val YI, .val YI]
abbrev R_spec_l1In : List VK := [.s (.dat .bool)]
def F_spec_l1In (x : denP P_spec_l1In) : Option (denV R_spec_l1In × denQ P_spec_l1In) :=
  if (leI x.2.1 x.1) = true then
    some (((leI x.1 x.2.2.1), ()), ())
  else
    some ((false, ()), ())
abbrev C_spec_l1In : Con := ⟨P_spec_l1In, R_spec_l1In, F_spec_l1In, false⟩
abbrev G_spec_l1In : Env := []
theorem g_spec_l1In : EnvOk Try.prog G_spec_l1In := env_nil
theorem r_spec_l1In (x) : runFn T G_spec_l1In [] Try.f60 P_spec_l1In R_spec_l1In x = F_spec_l1In x := by kernel_rfl
theorem s_spec_l1In : CallsOk Try.prog 60 C_spec_l1In :=
  fn_calls (L := []) hT g_spec_l1In Try.f60 (by kernel_rfl) (by kernel_rfl) (by kernel_rfl) (plain_ok (by kernel_rfl)) r_spec_l1In
/-! spec.MemoryFault -/
abbrev P_spec_MemoryFault : List PK := [.val Y22]
abbrev R_spec_MemoryFault : List VK := [.s (.dat YI)]
abbrev i_spec_MemoryFault_4 : Shp := { slots := [(0, .s (.dat Y22)), (3, .s (.dat YI))], boxes := [], rows := [] }
abbrev o_spec_MemoryFault_4 : List (Ex × Shp) := [(.exit 0, { slots := [], boxes := [], rows := [] }), (.ret, { slots := [(2, .s (.dat YI))], boxes := [], rows := [] })]
def l_spec_MemoryFault_4 (rec : i_spec_MemoryFault_4.den → Option (denO o_spec_MemoryFault_4)) (u4 : i_spec_MemoryFault_4.den) : Option (denO o_spec_MemoryFault_4) :=
  let v7 := ((u4.1.1.length : Nat) : Int)
  if (ltI u4.1.2.1 v7) then
    if 0 ≤ u4.1.2.1 then
      ((u4.1.1)[(u4.1.2.1).toNat]?).bind fun y8 =>
      (F_spec_l1In (y8, (0 : Int), (4294967295 : Int), ())).bind fun r9 =>
      if (!r9.1.1) then
        some (.inr (.inl (((3 : Int), ()), ((), ()))))
      else
        let v10 := (IntKind.i64.wrap (u4.1.2.1 + (1 : Int)))
        rec ((u4.1.1, (v10, ())), ((), ()))
    else none
  else
    some (.inl ((), ((), ())))
def L_spec_MemoryFault_4 (x : i_spec_MemoryFault_4.den) : Option (denO o_spec_MemoryFault_4) := iterF l_spec_MemoryFault_4 lots x
def F_spec_MemoryFault (x : denP P_spec_MemoryFault) : Option (denV R_spec_MemoryFault × denQ P_spec_MemoryFault) :=
  let v1 := ((x.1.length : Nat) : Int)
  let v2 := ((v1).tmod (8 : Int))
  if (v2 != (0 : Int)) = false then
    let v3 := ((x.1.length : Nat) : Int)
    if (ltI v3 (8 : Int)) = false then
      let v4 := ((x.1.length : Nat) : Int)
      if (ltI (192 : Int) v4) then
        some (((1 : Int), ()), ())
      else
        (L_spec_MemoryFault_4 ((x.1, ((0 : Int), ())), ((), ()))).bind fun z11 =>
        match z11 with
        | .inl x12 =>
          some (((0 : Int), ()), ())
        | .inr z11_ =>
          match z11_ with
          | .inl x13 =>
            some ((x13.1.1, ()), ())
          | .inr z11__ =>
            none
    else
      some (((1 : Int), ()), ())
  else
    some (((1 : Int), ()), ())
abbrev C_spec_MemoryFault : Con := ⟨P_spec_MemoryFault, R_spec_MemoryFault, F_spec_MemoryFault, false⟩
abbrev G_spec_MemoryFault : Env := [(60, C_spec_l1In)]
theorem g_spec_MemoryFault : EnvOk Try.prog G_spec_MemoryFault := (env_cons s_spec_l1In env_nil)
abbrev c_spec_MemoryFault_4 : Cut := ⟨i_spec_MemoryFault_4, o_spec_MemoryFault_4, fun x => iterF l_spec_MemoryFault_4 lots x⟩
theorem t_spec_MemoryFault_4 (rec x) : run T G_spec_MemoryFault [] (nav Try.f58 [1, 1, 0, 1, 0, 0]) (mk 30 i_spec_MemoryFault_4 x) (loopK i_spec_MemoryFault_4 o_spec_MemoryFault_4 rec) = l_spec_MemoryFault_4 rec x := by kernel_rfl
theorem k_spec_MemoryFault_4 : CutOk Try.prog 30 (.loop (nav Try.f58 [1, 1, 0, 1, 0, 0])) c_spec_MemoryFault_4 :=
  loop_cut (L := []) hT g_spec_MemoryFault t_spec_MemoryFault_4 (plain_ok (by kernel_rfl)) _
theorem r_spec_MemoryFault (x) : runFn T G_spec_MemoryFault [(4, c_spec_MemoryFault_4)] Try.f58 P_spec_MemoryFault R_spec_MemoryFault x = F_spec_MemoryFault x := by kernel_rfl
theorem s_spec_MemoryFault : CallsOk Try.prog 58 C_spec_MemoryFault :=
  fn_calls (L := [(4, c_spec_MemoryFault_4)]) hT g_spec_MemoryFault Try.f58 (by kernel_rfl) (by kernel_rfl) (by kernel_rfl) (seq_ok (plain_ok (by kernel_rfl)) (seq_ok (plain_ok (by kernel_rfl)) (seq_ok (seq_ok (plain_ok (by kernel_rfl)) (block_ok (by kernel_rfl) (loop_ok (by kernel_rfl) k_spec_MemoryFault_4))) (plain_ok (by kernel_rfl))))) r_spec_MemoryFault
/-! spec.DigestOf -/
abbrev P_spec_DigestOf : List PK := [.val Y22]
abbrev R_spec_DigestOf : List VK := [.s (.dat Y23)]
abbrev i_spec_DigestOf_6 : Shp := { slots := [(0, .s (.dat Y22)), (2, .s (.ptr 2 0)), (4, .s (.dat YI)), (5, .s (.dat YI))], boxes := [(2, [.dat YI, .dat YI])], rows := [] }
abbrev o_spec_DigestOf_6 : List (Ex × Shp) := [(.exit 0, { slots := [(2, .s (.ptr 2 0)), (4, .s (.dat YI))], boxes := [(2, [.dat YI, .dat YI])], rows := [] })]
def l_spec_DigestOf_6 (rec : i_spec_DigestOf_6.den → Option (denO o_spec_DigestOf_6)) (u6 : i_spec_DigestOf_6.den) : Option (denO o_spec_DigestOf_6) :=
  let v3 := ((u6.1.1.length : Nat) : Int)
  if (ltI u6.1.2.2.2.1 v3) then
    let v4 := (IntKind.i64.wrap (u6.1.2.2.1 * (131 : Int)))
    if 0 ≤ u6.1.2.2.2.1 then
      ((u6.1.1)[(u6.1.2.2.2.1).toNat]?).bind fun y5 =>
      let v6 := (IntKind.i64.wrap (v4 + y5))
      let v7 := (IntKind.i64.wrap (v6 + (1 : Int)))
      let v8 := ((v7).tmod (1000000007 : Int))
      let v9 := (IntKind.i64.wrap (u6.1.2.2.2.1 + (1 : Int)))
      rec ((u6.1.1, ((), (v8, (v9, ())))), (((u6.2.1.1.1, (u6.2.1.1.2.1, ())), ()), ()))
    else none
  else
    some (.inl (((), (u6.1.2.2.1, ())), (((u6.2.1.1.1, (u6.2.1.1.2.1, ())), ()), ())))
def L_spec_DigestOf_6 (x : i_spec_DigestOf_6.den) : Option (denO o_spec_DigestOf_6) := iterF l_spec_DigestOf_6 lots x
def F_spec_DigestOf (x : denP P_spec_DigestOf) : Option (denV R_spec_DigestOf × denQ P_spec_DigestOf) :=
  (F_spec_MemoryFault (x.1, ())).bind fun r1 =>
  if (r1.1.1 != (0 : Int)) then
    some (((r1.1.1, ((0 : Int), ())), ()), ())
  else
    (L_spec_DigestOf_6 ((x.1, ((), ((5 : Int), ((0 : Int), ())))), ((((0 : Int), ((0 : Int), ())), ()), ()))).bind fun z10 =>
    match z10 with
    | .inl x11 =>
      some ((((0 : Int), (x11.1.2.1, ())), ()), ())
    | .inr z10_ =>
      none
abbrev C_spec_DigestOf : Con := ⟨P_spec_DigestOf, R_spec_DigestOf, F_spec_DigestOf, false⟩
abbrev G_spec_DigestOf : Env := [(58, C_spec_MemoryFault)]
theorem g_spec_DigestOf : EnvOk Try.prog G_spec_DigestOf := (env_cons s_spec_MemoryFault env_nil)
abbrev c_spec_DigestOf_6 : Cut := ⟨i_spec_DigestOf_6, o_spec_DigestOf_6, fun x => iterF l_spec_DigestOf_6 lots x⟩
theorem t_spec_DigestOf_6 (rec x) : run T G_spec_DigestOf [] (nav Try.f14 [1, 1, 1, 0, 1, 0, 0]) (mk 29 i_spec_DigestOf_6 x) (loopK i_spec_DigestOf_6 o_spec_DigestOf_6 rec) = l_spec_DigestOf_6 rec x := by kernel_rfl
theorem k_spec_DigestOf_6 : CutOk Try.prog 29 (.loop (nav Try.f14 [1, 1, 1, 0, 1, 0, 0])) c_spec_DigestOf_6 :=
  loop_cut (L := []) hT g_spec_DigestOf t_spec_DigestOf_6 (plain_ok (by kernel_rfl)) _
theorem r_spec_DigestOf (x) : runFn T G_spec_DigestOf [(6, c_spec_DigestOf_6)] Try.f14 P_spec_DigestOf R_spec_DigestOf x = F_spec_DigestOf x := by kernel_rfl
theorem s_spec_DigestOf : CallsOk Try.prog 14 C_spec_DigestOf :=
  fn_calls (L := [(6, c_spec_DigestOf_6)]) hT g_spec_DigestOf Try.f14 (by kernel_rfl) (by kernel_rfl) (by kernel_rfl) (seq_ok (plain_ok (by kernel_rfl)) (seq_ok (plain_ok (by kernel_rfl)) (seq_ok (plain_ok (by kernel_rfl)) (seq_ok (seq_ok (plain_ok (by kernel_rfl)) (block_ok (by kernel_rfl) (loop_ok (by kernel_rfl) k_spec_DigestOf_6))) (plain_ok (by kernel_rfl)))))) r_spec_DigestOf
/-! impl.within -/
abbrev P_impl_within : List PK := [.val YI, .val YI, .val YI]
abbrev R_impl_within : List VK := [.s (.dat .bool)]
def F_impl_within (x : denP P_impl_within) : Option (denV R_impl_within × denQ P_impl_within) :=
  if (leI x.2.1 x.1) = true then
    some (((leI x.1 x.2.2.1), ()), ())
  else
    some ((false, ()), ())
abbrev C_impl_within : Con := ⟨P_impl_within, R_impl_within, F_impl_within, false⟩
abbrev G_impl_within : Env := []
theorem g_impl_within : EnvOk Try.prog G_impl_within := env_nil
theorem r_impl_within (x) : runFn T G_impl_within [] Try.f63 P_impl_within R_impl_within x = F_impl_within x := by kernel_rfl
theorem s_impl_within : CallsOk Try.prog 63 C_impl_within :=
  fn_calls (L := []) hT g_impl_within Try.f63 (by kernel_rfl) (by kernel_rfl) (by kernel_rfl) (plain_ok (by kernel_rfl)) r_impl_within
/-! impl.isWord -/
abbrev P_impl_isWord : List PK := [.val YI]
abbrev R_impl_isWord : List VK := [.s (.dat .bool)]
def F_impl_isWord (x : denP P_impl_isWord) : Option (denV R_impl_isWord × denQ P_impl_isWord) :=
  (F_impl_within (x.1, (0 : Int), (4294967295 : Int), ())).bind fun r1 =>
  some ((r1.1.1, ()), ())
abbrev C_impl_isWord : Con := ⟨P_impl_isWord, R_impl_isWord, F_impl_isWord, false⟩
abbrev G_impl_isWord : Env := [(63, C_impl_within)]
theorem g_impl_isWord : EnvOk Try.prog G_impl_isWord := (env_cons s_impl_within env_nil)
theorem r_impl_isWord (x) : runFn T G_impl_isWord [] Try.f128 P_impl_isWord R_impl_isWord x = F_impl_isWord x := by kernel_rfl
theorem s_impl_isWord : CallsOk Try.prog 128 C_impl_isWord :=
  fn_calls (L := []) hT g_impl_isWord Try.f128 (by kernel_rfl) (by kernel_rfl) (by kernel_rfl) (plain_ok (by kernel_rfl)) r_impl_isWord
/-! impl.areWords.1 -/
abbrev P_impl_areWords_1 : List PK := [.val YI]
abbrev R_impl_areWords_1 : List VK := [.s (.dat .bool)]
def F_impl_areWords_1 (x : denP P_impl_areWords_1) : Option (denV R_impl_areWords_1 × denQ P_impl_areWords_1) :=
  (F_impl_isWord (x.1, ())).bind fun r1 =>
  some (((!r1.1.1), ()), ())
abbrev C_impl_areWords_1 : Con := ⟨P_impl_areWords_1, R_impl_areWords_1, F_impl_areWords_1, false⟩
abbrev G_impl_areWords_1 : Env := [(128, C_impl_isWord)]
theorem g_impl_areWords_1 : EnvOk Try.prog G_impl_areWords_1 := (env_cons s_impl_isWord env_nil)
theorem r_impl_areWords_1 (x) : runFn T G_impl_areWords_1 [] Try.f127 P_impl_areWords_1 R_impl_areWords_1 x = F_impl_areWords_1 x := by kernel_rfl
theorem s_impl_areWords_1 : CallsOk Try.prog 127 C_impl_areWords_1 :=
  fn_calls (L := []) hT g_impl_areWords_1 Try.f127 (by kernel_rfl) (by kernel_rfl) (by kernel_rfl) (plain_ok (by kernel_rfl)) r_impl_areWords_1
/-! slices.IndexFunc[int64,int64] -/
abbrev P_slices_IndexFunc_int64_of_impl_areWords_1 : List PK := [.val Y22, .fn 127 []]
abbrev R_slices_IndexFunc_int64_of_impl_areWords_1 : List VK := [.s (.dat YI)]
abbrev i_slices_IndexFunc_int64_of_impl_areWords_1_2 : Shp := { slots := [(0, .s (.dat Y22)), (1, .s (.fn 127 [])), (7, .s (.dat YI)), (8, .s (.dat YI))], boxes := [], rows := [] }
abbrev o_slices_IndexFunc_int64_of_impl_areWords_1_2 : List (Ex × Shp) := [(.exit 0, { slots := [], boxes := [], rows := [] }), (.ret, { slots := [(4, .s (.dat YI))], boxes := [], rows := [] })]
def l_slices_IndexFunc_int64_of_impl_areWords_1_2 (rec : i_slices_IndexFunc_int64_of_impl_areWords_1_2.den → Option (denO o_slices_IndexFunc_int64_of_impl_areWords_1_2)) (u2 : i_slices_IndexFunc_int64_of_impl_areWords_1_2.den) : Option (denO o_slices_IndexFunc_int64_of_impl_areWords_1_2) :=
  if (ltI u2.1.2.2.2.1 u2.1.2.2.1) then
    if 0 ≤ u2.1.2.2.2.1 then
      ((u2.1.1)[(u2.1.2.2.2.1).toNat]?).bind fun y4 =>
      (F_impl_areWords_1 (y4, ())).bind fun r5 =>
      if r5.1.1 then
        some (.inr (.inl ((u2.1.2.2.2.1, ()), ((), ()))))
      else
        let v6 := (IntKind.i64.wrap (u2.1.2.2.2.1 + (1 : Int)))
        rec ((u2.1.1, ((), (u2.1.2.2.1, (v6, ())))), ((), ()))
    else none
  else
    some (.inl ((), ((), ())))
def L_slices_IndexFunc_int64_of_impl_areWords_1_2 (x : i_slices_IndexFunc_int64_of_impl_areWords_1_2.den) : Option (denO o_slices_IndexFunc_int64_of_impl_areWords_1_2) := iterF l_slices_IndexFunc_int64_of_impl_areWords_1_2 lots x
def F_slices_IndexFunc_int64_of_impl_areWords_1 (x : denP P_slices_IndexFunc_int64_of_impl_areWords_1) : Option (denV R_slices_IndexFunc_int64_of_impl_areWords_1 × denQ P_slices_IndexFunc_int64_of_impl_areWords_1) :=
  let v1 := ((x.1.length : Nat) : Int)
  (L_slices_IndexFunc_int64_of_impl_areWords_1_2 ((x.1, ((), (v1, ((0 : Int), ())))), ((), ()))).bind fun z7 =>
  match z7 with
  | .inl x8 =>
    some (((-1 : Int), ()), ())
  | .inr z7_ =>
    match z7_ with
    | .inl x9 =>
      some ((x9.1.1, ()), ())
    | .inr z7__ =>
      none
abbrev C_slices_IndexFunc_int64_of_impl_areWords_1 : Con := ⟨P_slices_IndexFunc_int64_of_impl_areWords_1, R_slices_IndexFunc_int64_of_impl_areWords_1, F_slices_IndexFunc_int64_of_impl_areWords_1, false⟩
abbrev G_slices_IndexFunc_int64_of_impl_areWords_1 : Env := [(127, C_impl_areWords_1)]
theorem g_slices_IndexFunc_int64_of_impl_areWords_1 : EnvOk Try.prog G_slices_IndexFunc_int64_of_impl_areWords_1 := (env_cons s_impl_areWords_1 env_nil)
abbrev c_slices_IndexFunc_int64_of_impl_areWords_1_2 : Cut := ⟨i_slices_IndexFunc_int64_of_impl_areWords_1_2, o_slices_IndexFunc_int64_of_impl_areWords_1_2, fun x => iterF l_slices_IndexFunc_int64_of_impl_areWords_1_2 lots x⟩
theorem t_slices_IndexFunc_int64_of_impl_areWords_1_2 (rec x) : run T G_slices_IndexFunc_int64_of_impl_areWords_1 [] (nav Try.f162 [1, 0, 1, 0, 0]) (mk 19 i_slices_IndexFunc_int64_of_impl_areWords_1_2 x) (loopK i_slices_IndexFunc_int64_of_impl_areWords_1_2 o_slices_IndexFunc_int64_of_impl_areWords_1_2 rec) = l_slices_IndexFunc_int64_of_impl_areWords_1_2 rec x := by kernel_rfl
theorem k_slices_IndexFunc_int64_of_impl_areWords_1_2 : CutOk Try.prog 19 (.loop (nav Try.f162 [1, 0, 1, 0, 0])) c_slices_IndexFunc_int64_of_impl_areWords_1_2 :=
  loop_cut (L := []) hT g_slices_IndexFunc_int64_of_impl_areWords_1 t_slices_IndexFunc_int64_of_impl_areWords_1_2 (plain_ok (by kernel_rfl)) _
theorem r_slices_IndexFunc_int64_of_impl_areWords_1 (x) : runFn T G_slices_IndexFunc_int64_of_impl_areWords_1 [(2, c_slices_IndexFunc_int64_of_impl_areWords_1_2)] Try.f162 P_slices_IndexFunc_int64_of_impl_areWords_1 R_slices_IndexFunc_int64_of_impl_areWords_1 x = F_slices_IndexFunc_int64_of_impl_areWords_1 x := by kernel_rfl
theorem s_slices_IndexFunc_int64_of_impl_areWords_1 : CallsOk Try.prog 162 C_slices_IndexFunc_int64_of_impl_areWords_1 :=
  fn_calls (L := [(2, c_slices_IndexFunc_int64_of_impl_areWords_1_2)]) hT g_slices_IndexFunc_int64_of_impl_areWords_1 Try.f162 (by kernel_rfl) (by kernel_rfl) (by kernel_rfl) (seq_ok (plain_ok (by kernel_rfl)) (seq_ok (seq_ok (plain_ok (by kernel_rfl)) (block_ok (by kernel_rfl) (loop_ok (by kernel_rfl) k_slices_IndexFunc_int64_of_impl_areWords_1_2))) (plain_ok (by kernel_rfl)))) r_slices_IndexFunc_int64_of_impl_areWords_1
/-! slices.ContainsFunc[int64,int64] -/
abbrev P_slices_ContainsFunc_int64_of_impl_areWords_1 : List PK := [.val Y22, .fn 127 []]
abbrev R_slices_ContainsFunc_int64_of_impl_areWords_1 : List VK := [.s (.dat .bool)]
def F_slices_ContainsFunc_int64_of_impl_areWords_1 (x : denP P_slices_ContainsFunc_int64_of_impl_areWords_1) : Option (denV R_slices_ContainsFunc_int64_of_impl_areWords_1 × denQ P_slices_ContainsFunc_int64_of_impl_areWords_1) :=
  (F_slices_IndexFunc_int64_of_impl_areWords_1 (x.1, (), ())).bind fun r1 =>
  some (((leI (0 : Int) r1.1.1), ()), ())
abbrev C_slices_ContainsFunc_int64_of_impl_areWords_1 : Con := ⟨P_slices_ContainsFunc_int64_of_impl_areWords_1, R_slices_ContainsFunc_int64_of_impl_areWords_1, F_slices_ContainsFunc_int64_of_impl_areWords_1, false⟩
abbrev G_slices_ContainsFunc_int64_of_impl_areWords_1 : Env := [(162, C_slices_IndexFunc_int64_of_impl_areWords_1)]
theorem g_slices_ContainsFunc_int64_of_impl_areWords_1 : EnvOk Try.prog G_slices_ContainsFunc_int64_of_impl_areWords_1 := (env_cons s_slices_IndexFunc_int64_of_impl_areWords_1 env_nil)
theorem r_slices_ContainsFunc_int64_of_impl_areWords_1 (x) : runFn T G_slices_ContainsFunc_int64_of_impl_areWords_1 [] Try.f126 P_slices_ContainsFunc_int64_of_impl_areWords_1 R_slices_ContainsFunc_int64_of_impl_areWords_1 x = F_slices_ContainsFunc_int64_of_impl_areWords_1 x := by kernel_rfl
theorem s_slices_ContainsFunc_int64_of_impl_areWords_1 : CallsOk Try.prog 126 C_slices_ContainsFunc_int64_of_impl_areWords_1 :=
  fn_calls (L := []) hT g_slices_ContainsFunc_int64_of_impl_areWords_1 Try.f126 (by kernel_rfl) (by kernel_rfl) (by kernel_rfl) (plain_ok (by kernel_rfl)) r_slices_ContainsFunc_int64_of_impl_areWords_1
/-! impl.areWords -/
abbrev P_impl_areWords : List PK := [.val Y22]
abbrev R_impl_areWords : List VK := [.s (.dat .bool)]
def F_impl_areWords (x : denP P_impl_areWords) : Option (denV R_impl_areWords × denQ P_impl_areWords) :=
  (F_slices_ContainsFunc_int64_of_impl_areWords_1 (x.1, (), ())).bind fun r1 =>
  some (((!r1.1.1), ()), ())
abbrev C_impl_areWords : Con := ⟨P_impl_areWords, R_impl_areWords, F_impl_areWords, false⟩
abbrev G_impl_areWords : Env := [(126, C_slices_ContainsFunc_int64_of_impl_areWords_1)]
theorem g_impl_areWords : EnvOk Try.prog G_impl_areWords := (env_cons s_slices_ContainsFunc_int64_of_impl_areWords_1 env_nil)
theorem r_impl_areWords (x) : runFn T G_impl_areWords [] Try.f64 P_impl_areWords R_impl_areWords x = F_impl_areWords x := by kernel_rfl
theorem s_impl_areWords : CallsOk Try.prog 64 C_impl_areWords :=
  fn_calls (L := []) hT g_impl_areWords Try.f64 (by kernel_rfl) (by kernel_rfl) (by kernel_rfl) (plain_ok (by kernel_rfl)) r_impl_areWords
/-! impl.MemoryFault -/
abbrev P_impl_MemoryFault : List PK := [.val Y22]
abbrev R_impl_MemoryFault : List VK := [.s (.dat YI)]
def F_impl_MemoryFault (x : denP P_impl_MemoryFault) : Option (denV R_impl_MemoryFault × denQ P_impl_MemoryFault) :=
  let v1 := ((x.1.length : Nat) : Int)
  if (v1 == (0 : Int)) = false then
    let v2 := ((x.1.length : Nat) : Int)
    if (ltI (192 : Int) v2) = false then
      let v3 := ((x.1.length : Nat) : Int)
      let v4 := ((v3).tmod (8 : Int))
      if (v4 != (0 : Int)) then
        some (((1 : Int), ()), ())
      else
        (F_impl_areWords (x.1, ())).bind fun r5 =>
        if (!r5.1.1) then
          some (((3 : Int), ()), ())
        else
          some (((0 : Int), ()), ())
    else
      some (((1 : Int), ()), ())
  else
    some (((1 : Int), ()), ())
abbrev C_impl_MemoryFault : Con := ⟨P_impl_MemoryFault, R_impl_MemoryFault, F_impl_MemoryFault, false⟩
abbrev G_impl_MemoryFault : Env := [(64, C_impl_areWords)]
theorem g_impl_MemoryFault : EnvOk Try.prog G_impl_MemoryFault := (env_cons s_impl_areWords env_nil)
theorem r_impl_MemoryFault (x) : runFn T G_impl_MemoryFault [] Try.f59 P_impl_MemoryFault R_impl_MemoryFault x = F_impl_MemoryFault x := by kernel_rfl
theorem s_impl_MemoryFault : CallsOk Try.prog 59 C_impl_MemoryFault :=
  fn_calls (L := []) hT g_impl_MemoryFault Try.f59 (by kernel_rfl) (by kernel_rfl) (by kernel_rfl) (plain_ok (by kernel_rfl)) r_impl_MemoryFault
/-! impl.DigestOf -/
abbrev P_impl_DigestOf : List PK := [.val Y22]
abbrev R_impl_DigestOf : List VK := [.s (.dat Y23)]
abbrev i_impl_DigestOf_6 : Shp := { slots := [(2, .s (.ptr 2 0)), (4, .s (.dat YI)), (13, .s (.dat Y22)), (14, .s (.dat YI)), (15, .s (.dat YI))], boxes := [(2, [.dat YI, .dat YI])], rows := [] }
abbrev o_impl_DigestOf_6 : List (Ex × Shp) := [(.exit 0, { slots := [(2, .s (.ptr 2 0)), (4, .s (.dat YI))], boxes := [(2, [.dat YI, .dat YI])], rows := [] })]
def l_impl_DigestOf_6 (rec : i_impl_DigestOf_6.den → Option (denO o_impl_DigestOf_6)) (u6 : i_impl_DigestOf_6.den) : Option (denO o_impl_DigestOf_6) :=
  if (ltI u6.1.2.2.2.2.1 u6.1.2.2.2.1) then
    if 0 ≤ u6.1.2.2.2.2.1 then
      ((u6.1.2.2.1)[(u6.1.2.2.2.2.1).toNat]?).bind fun y4 =>
      let v5 := (IntKind.i64.wrap (u6.1.2.1 * (131 : Int)))
      let v6 := (IntKind.i64.wrap (v5 + y4))
      let v7 := (IntKind.i64.wrap (v6 + (1 : Int)))
      let v8 := ((v7).tmod (1000000007 : Int))
      let v9 := (IntKind.i64.wrap (u6.1.2.2.2.2.1 + (1 : Int)))
      rec (((), (v8, (u6.1.2.2.1, (u6.1.2.2.2.1, (v9, ()))))), (((u6.2.1.1.1, (u6.2.1.1.2.1, ())), ()), ()))
    else none
  else
    some (.inl (((), (u6.1.2.1, ())), (((u6.2.1.1.1, (u6.2.1.1.2.1, ())), ()), ())))
def L_impl_DigestOf_6 (x : i_impl_DigestOf_6.den) : Option (denO o_impl_DigestOf_6) := iterF l_impl_DigestOf_6 lots x
def F_impl_DigestOf (x : denP P_impl_DigestOf) : Option (denV R_impl_DigestOf × denQ P_impl_DigestOf) :=
  (F_impl_MemoryFault (x.1, ())).bind fun r1 =>
  if (r1.1.1 != (0 : Int)) then
    some (((r1.1.1, ((0 : Int), ())), ()), ())
  else
    let v2 := ((x.1.length : Nat) : Int)
    (L_impl_DigestOf_6 (((), ((5 : Int), (x.1, (v2, ((0 : Int), ()))))), ((((0 : Int), ((0 : Int), ())), ()), ()))).bind fun z10 =>
    match z10 with
    | .inl x11 =>
      some ((((0 : Int), (x11.1.2.1, ())), ()), ())
    | .inr z10_ =>
      none
abbrev C_impl_DigestOf : Con := ⟨P_impl_DigestOf, R_impl_DigestOf, F_impl_DigestOf, false⟩
abbrev G_impl_DigestOf : Env := [(59, C_impl_MemoryFault)]
theorem g_impl_DigestOf : EnvOk Try.prog G_impl_DigestOf := (env_cons s_impl_MemoryFault env_nil)
abbrev c_impl_DigestOf_6 : Cut := ⟨i_impl_DigestOf_6, o_impl_DigestOf_6, fun x => iterF l_impl_DigestOf_6 lots x⟩
theorem t_impl_DigestOf_6 (rec x) : run T G_impl_DigestOf [] (nav Try.f16 [1, 1, 1, 0, 1, 0, 0]) (mk 28 i_impl_DigestOf_6 x) (loopK i_impl_DigestOf_6 o_impl_DigestOf_6 rec) = l_impl_DigestOf_6 rec x := by kernel_rfl
theorem k_impl_DigestOf_6 : CutOk Try.prog 28 (.loop (nav Try.f16 [1, 1, 1, 0, 1, 0, 0])) c_impl_DigestOf_6 :=
  loop_cut (L := []) hT g_impl_DigestOf t_impl_DigestOf_6 (plain_ok (by kernel_rfl)) _
theorem r_impl_DigestOf (x) : runFn T G_impl_DigestOf [(6, c_impl_DigestOf_6)] Try.f16 P_impl_DigestOf R_impl_DigestOf x = F_impl_DigestOf x := by kernel_rfl
theorem s_impl_DigestOf : CallsOk Try.prog 16 C_impl_DigestOf :=
  fn_calls (L := [(6, c_impl_DigestOf_6)]) hT g_impl_DigestOf Try.f16 (by kernel_rfl) (by kernel_rfl) (by kernel_rfl) (seq_ok (plain_ok (by kernel_rfl)) (seq_ok (plain_ok (by kernel_rfl)) (seq_ok (plain_ok (by kernel_rfl)) (seq_ok (seq_ok (plain_ok (by kernel_rfl)) (block_ok (by kernel_rfl) (loop_ok (by kernel_rfl) k_impl_DigestOf_6))) (plain_ok (by kernel_rfl)))))) r_impl_DigestOf
/-! laws.eqIntResult -/
abbrev P_laws_eqIntResult : List PK := [.val Y23, .val Y23]
abbrev R_laws_eqIntResult : List VK := [.s (.dat .bool)]
def F_laws_eqIntResult (x : denP P_laws_eqIntResult) : Option (denV R_laws_eqIntResult × denQ P_laws_eqIntResult) :=
  if (x.1.1 != x.2.1.1) then
    some ((false, ()), ())
  else
    if (x.1.2.1 != x.2.1.2.1) then
      some ((false, ()), ())
    else
      some ((true, ()), ())
abbrev C_laws_eqIntResult : Con := ⟨P_laws_eqIntResult, R_laws_eqIntResult, F_laws_eqIntResult, false⟩
abbrev G_laws_eqIntResult : Env := []
theorem g_laws_eqIntResult : EnvOk Try.prog G_laws_eqIntResult := env_nil
theorem r_laws_eqIntResult (x) : runFn T G_laws_eqIntResult [] Try.f17 P_laws_eqIntResult R_laws_eqIntResult x = F_laws_eqIntResult x := by kernel_rfl
theorem s_laws_eqIntResult : CallsOk Try.prog 17 C_laws_eqIntResult :=
  fn_calls (L := []) hT g_laws_eqIntResult Try.f17 (by kernel_rfl) (by kernel_rfl) (by kernel_rfl) (plain_ok (by kernel_rfl)) r_laws_eqIntResult
/-! laws.eqInt64S -/
abbrev P_laws_eqInt64S : List PK := [.val Y22, .val Y22]
abbrev R_laws_eqInt64S : List VK := [.s (.dat .bool)]
abbrev i_laws_eqInt64S_4 : Shp := { slots := [(0, .s (.dat Y22)), (1, .s (.dat Y22)), (5, .s (.dat YI))], boxes := [], rows := [] }
abbrev o_laws_eqInt64S_4 : List (Ex × Shp) := [(.exit 0, { slots := [], boxes := [], rows := [] }), (.ret, { slots := [(4, .s (.dat .bool))], boxes := [], rows := [] })]
def l_laws_eqInt64S_4 (rec : i_laws_eqInt64S_4.den → Option (denO o_laws_eqInt64S_4)) (u4 : i_laws_eqInt64S_4.den) : Option (denO o_laws_eqInt64S_4) :=
  let v5 := ((u4.1.1.length : Nat) : Int)
  if (ltI u4.1.2.2.1 v5) then
    if 0 ≤ u4.1.2.2.1 then
      ((u4.1.1)[(u4.1.2.2.1).toNat]?).bind fun y6 =>
      if 0 ≤ u4.1.2.2.1 then
        ((u4.1.2.1)[(u4.1.2.2.1).toNat]?).bind fun y7 =>
        if (y6 != y7) then
          some (.inr (.inl ((false, ()), ((), ()))))
        else
          let v8 := (IntKind.i64.wrap (u4.1.2.2.1 + (1 : Int)))
          rec ((u4.1.1, (u4.1.2.1, (v8, ()))), ((), ()))
      else none
    else none
  else
    some (.inl ((), ((), ())))
def L_laws_eqInt64S_4 (x : i_laws_eqInt64S_4.den) : Option (denO o_laws_eqInt64S_4) := iterF l_laws_eqInt64S_4 lots x
def F_laws_eqInt64S (x : denP P_laws_eqInt64S) : Option (denV R_laws_eqInt64S × denQ P_laws_eqInt64S) :=
  let v1 := ((x.1.length : Nat) : Int)
  let v2 := ((x.2.1.length : Nat) : Int)
  if (v1 != v2) then
    some ((false, ()), ())
  else
    (L_laws_eqInt64S_4 ((x.1, (x.2.1, ((0 : Int), ()))), ((), ()))).bind fun z9 =>
    match z9 with
    | .inl x10 =>
      some ((true, ()), ())
    | .inr z9_ =>
      match z9_ with
      | .inl x11 =>
        some ((x11.1.1, ()), ())
      | .inr z9__ =>
        none
abbrev C_laws_eqInt64S : Con := ⟨P_laws_eqInt64S, R_laws_eqInt64S, F_laws_eqInt64S, false⟩
abbrev G_laws_eqInt64S : Env := []
theorem g_laws_eqInt64S : EnvOk Try.prog G_laws_eqInt64S := env_nil
abbrev c_laws_eqInt64S_4 : Cut := ⟨i_laws_eqInt64S_4, o_laws_eqInt64S_4, fun x => iterF l_laws_eqInt64S_4 lots x⟩
theorem t_laws_eqInt64S_4 (rec x) : run T G_laws_eqInt64S [] (nav Try.f18 [1, 1, 0, 1, 0, 0]) (mk 26 i_laws_eqInt64S_4 x) (loopK i_laws_eqInt64S_4 o_laws_eqInt64S_4 rec) = l_laws_eqInt64S_4 rec x := by kernel_rfl
theorem k_laws_eqInt64S_4 : CutOk Try.prog 26 (.loop (nav Try.f18 [1, 1, 0, 1, 0, 0])) c_laws_eqInt64S_4 :=
  loop_cut (L := []) hT g_laws_eqInt64S t_laws_eqInt64S_4 (plain_ok (by kernel_rfl)) _
theorem r_laws_eqInt64S (x) : runFn T G_laws_eqInt64S [(4, c_laws_eqInt64S_4)] Try.f18 P_laws_eqInt64S R_laws_eqInt64S x = F_laws_eqInt64S x := by kernel_rfl
theorem s_laws_eqInt64S : CallsOk Try.prog 18 C_laws_eqInt64S :=
  fn_calls (L := [(4, c_laws_eqInt64S_4)]) hT g_laws_eqInt64S Try.f18 (by kernel_rfl) (by kernel_rfl) (by kernel_rfl) (seq_ok (plain_ok (by kernel_rfl)) (seq_ok (plain_ok (by kernel_rfl)) (seq_ok (seq_ok (plain_ok (by kernel_rfl)) (block_ok (by kernel_rfl) (loop_ok (by kernel_rfl) k_laws_eqInt64S_4))) (plain_ok (by kernel_rfl))))) r_laws_eqInt64S
/-! laws.FnExactDigestOf -/
abbrev P_laws_FnExactDigestOf : List PK := [.val Y22]
abbrev R_laws_FnExactDigestOf : List VK := [.s (.dat .bool)]
def F_laws_FnExactDigestOf (x : denP P_laws_FnExactDigestOf) : Option (denV R_laws_FnExactDigestOf × denQ P_laws_FnExactDigestOf) :=
  let v1 := ((x.1.length : Nat) : Int)
  if (ltI (1048576 : Int) v1) then
    some ((true, ()), ())
  else
    (F_laws_toInt64S (x.1, ())).bind fun r2 =>
    (F_spec_DigestOf (r2.1.1, ())).bind fun r3 =>
    (F_laws_toInt64S (x.1, ())).bind fun r4 =>
    (F_impl_DigestOf (r4.1.1, ())).bind fun r5 =>
    (F_laws_eqIntResult (r5.1.1, r3.1.1, ())).bind fun r6 =>
    if (!r6.1.1) then
      some ((false, ()), ())
    else
      (F_laws_toInt64S (x.1, ())).bind fun r7 =>
      (F_laws_eqInt64S (r4.1.1, r7.1.1, ())).bind fun r8 =>
      if (!r8.1.1) then
        some ((false, ()), ())
      else
        some ((true, ()), ())
abbrev C_laws_FnExactDigestOf : Con := ⟨P_laws_FnExactDigestOf, R_laws_FnExactDigestOf, F_laws_FnExactDigestOf, false⟩
abbrev G_laws_FnExactDigestOf : Env := [(14, C_spec_DigestOf), (15, C_laws_toInt64S), (16, C_impl_DigestOf), (17, C_laws_eqIntResult), (18, C_laws_eqInt64S)]
theorem g_laws_FnExactDigestOf : EnvOk Try.prog G_laws_FnExactDigestOf := (env_cons s_spec_DigestOf (env_cons s_laws_toInt64S (env_cons s_impl_DigestOf (env_cons s_laws_eqIntResult (env_cons s_laws_eqInt64S env_nil)))))
theorem r_laws_FnExactDigestOf (x) : runFn T G_laws_FnExactDigestOf [] Try.f3 P_laws_FnExactDigestOf R_laws_FnExactDigestOf x = F_laws_FnExactDigestOf x := by kernel_rfl
theorem s_laws_FnExactDigestOf : CallsOk Try.prog 3 C_laws_FnExactDigestOf :=
  fn_calls (L := []) hT g_laws_FnExactDigestOf Try.f3 (by kernel_rfl) (by kernel_rfl) (by kernel_rfl) (plain_ok (by kernel_rfl)) r_laws_FnExactDigestOf
theorem q_laws_FnExactDigestOf : Sound Try.prog 3 C_laws_FnExactDigestOf :=
  fn_snd (L := []) hT g_laws_FnExactDigestOf Try.f3 (by kernel_rfl) (by kernel_rfl) (plain_ok (by kernel_rfl)) r_laws_FnExactDigestOf
end Go.Proofs.Yteddlkdbefloaaa
