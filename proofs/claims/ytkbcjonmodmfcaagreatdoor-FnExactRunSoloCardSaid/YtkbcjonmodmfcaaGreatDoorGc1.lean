/- The functions of the laws, each as a plain function of data (F), and that the program's text does what F says. Printed by a program (wip/tools/gen.py). -/
import Derived.Test.YtkbcjonmodmfcaaGreatDoorGa3
namespace Go.Proofs.YtkbcjonmodmfcaaGreatDoor
open Go Go.RowKit S Go.Proofs
set_option maxRecDepth 100000
set_option linter.unusedVariables false
/-! laws.szSolo -/
abbrev P_laws_szSolo : List PK := [.val Y47, .val YI]
abbrev R_laws_szSolo : List VK := [.s (.dat YI)]
def F_laws_szSolo (x : denP P_laws_szSolo) : Option (denV R_laws_szSolo × denQ P_laws_szSolo) :=
  (F_laws_szHart (x.1.1, x.2.1, ())).bind fun r1 =>
  if (ltI r1.1.1 (0 : Int)) then
    some (((-1 : Int), ()), ())
  else
    (F_laws_szPageS (x.1.2.1, r1.1.1, ())).bind fun r2 =>
    if (ltI r2.1.1 (0 : Int)) then
      some (((-1 : Int), ()), ())
    else
      (F_laws_szInt64S (x.1.2.2.1, r2.1.1, ())).bind fun r3 =>
      if (ltI r3.1.1 (0 : Int)) then
        some (((-1 : Int), ()), ())
      else
        some ((r3.1.1, ()), ())
abbrev C_laws_szSolo : Con := ⟨P_laws_szSolo, R_laws_szSolo, F_laws_szSolo, false⟩
abbrev G_laws_szSolo : Env := [(10, C_laws_szHart), (11, C_laws_szPageS), (57, C_laws_szInt64S)]
theorem g_laws_szSolo : EnvOk Tryz.prog G_laws_szSolo := (env_cons s_laws_szHart (env_cons s_laws_szPageS (env_cons s_laws_szInt64S env_nil)))
theorem r_laws_szSolo (x) : runFn T G_laws_szSolo [] Tryz.f28 P_laws_szSolo R_laws_szSolo x = F_laws_szSolo x := by kernel_rfl
theorem s_laws_szSolo : CallsOk Tryz.prog 28 C_laws_szSolo :=
  fn_calls (L := []) hT g_laws_szSolo Tryz.f28 (by kernel_rfl) (by kernel_rfl) (by kernel_rfl) (plain_ok (by kernel_rfl)) r_laws_szSolo
/-! laws.toSolo -/
abbrev P_laws_toSolo : List PK := [.val Y47]
abbrev R_laws_toSolo : List VK := [.g [.own 2 YI, .dat YI, .own 2 YI, .dat .bool, .dat .bool, .dat .bool, .dat YI, .own 2 YI, .own 2 YI, .own 68 Y67, .own 2 YI]]
def F_laws_toSolo (x : denP P_laws_toSolo) : Option (denV R_laws_toSolo × denQ P_laws_toSolo) :=
  (F_laws_toHart (x.1.1, ())).bind fun r1 =>
  (F_laws_toPageS (x.1.2.1, ())).bind fun r2 =>
  (F_laws_toInt64S (x.1.2.2.1, ())).bind fun r3 =>
  some (((r1.1.1.1, (r1.1.1.2.1, (r1.1.1.2.2.1, (r1.1.1.2.2.2.1, (r1.1.1.2.2.2.2.1, (r1.1.1.2.2.2.2.2.1, (r1.1.1.2.2.2.2.2.2.1, (r1.1.1.2.2.2.2.2.2.2.1, (r1.1.1.2.2.2.2.2.2.2.2.1, (r2.1.1, (r3.1.1, ()))))))))))), ()), ())
abbrev C_laws_toSolo : Con := ⟨P_laws_toSolo, R_laws_toSolo, F_laws_toSolo, false⟩
abbrev G_laws_toSolo : Env := [(13, C_laws_toHart), (14, C_laws_toPageS), (15, C_laws_toInt64S)]
theorem g_laws_toSolo : EnvOk Tryz.prog G_laws_toSolo := (env_cons s_laws_toHart (env_cons s_laws_toPageS (env_cons s_laws_toInt64S env_nil)))
theorem r_laws_toSolo (x) : runFn T G_laws_toSolo [] Tryz.f30 P_laws_toSolo R_laws_toSolo x = F_laws_toSolo x := by kernel_rfl
theorem s_laws_toSolo : CallsOk Tryz.prog 30 C_laws_toSolo :=
  fn_calls (L := []) hT g_laws_toSolo Tryz.f30 (by kernel_rfl) (by kernel_rfl) (by kernel_rfl) (plain_ok (by kernel_rfl)) r_laws_toSolo
/-! spec.SoloFault -/
abbrev P_spec_SoloFault : List PK := [.val Y47]
abbrev R_spec_SoloFault : List VK := [.s (.dat YI)]
def F_spec_SoloFault (x : denP P_spec_SoloFault) : Option (denV R_spec_SoloFault × denQ P_spec_SoloFault) :=
  (F_spec_l8Fault (x.1.1, ())).bind fun r1 =>
  if (r1.1.1 != (0 : Int)) then
    some ((r1.1.1, ()), ())
  else
    (F_spec_PagesFault (x.1.2.1, (8 : Int), ())).bind fun r2 =>
    if (r2.1.1 != (0 : Int)) then
      some ((r2.1.1, ()), ())
    else
      (F_spec_MemoryFault (x.1.2.2.1, ())).bind fun r3 =>
      if (r3.1.1 != (0 : Int)) = false then
        let v4 := ((x.1.2.2.1.length : Nat) : Int)
        if (v4 != (64 : Int)) then
          some (((1 : Int), ()), ())
        else
          some (((0 : Int), ()), ())
      else
        some (((1 : Int), ()), ())
abbrev C_spec_SoloFault : Con := ⟨P_spec_SoloFault, R_spec_SoloFault, F_spec_SoloFault, false⟩
abbrev G_spec_SoloFault : Env := [(102, C_spec_l8Fault), (103, C_spec_PagesFault), (104, C_spec_MemoryFault)]
theorem g_spec_SoloFault : EnvOk Tryz.prog G_spec_SoloFault := (env_cons s_spec_l8Fault (env_cons s_spec_PagesFault (env_cons s_spec_MemoryFault env_nil)))
theorem r_spec_SoloFault (x) : runFn T G_spec_SoloFault [] Tryz.f69 P_spec_SoloFault R_spec_SoloFault x = F_spec_SoloFault x := by kernel_rfl
theorem s_spec_SoloFault : CallsOk Tryz.prog 69 C_spec_SoloFault :=
  fn_calls (L := []) hT g_spec_SoloFault Tryz.f69 (by kernel_rfl) (by kernel_rfl) (by kernel_rfl) (plain_ok (by kernel_rfl)) r_spec_SoloFault
/-! spec.l11Copy -/
abbrev P_spec_l11Copy : List PK := [.val Y47]
abbrev R_spec_l11Copy : List VK := [.g [.own 2 YI, .dat YI, .own 2 YI, .dat .bool, .dat .bool, .dat .bool, .dat YI, .own 2 YI, .own 2 YI, .own 68 Y67, .own 2 YI]]
def F_spec_l11Copy (x : denP P_spec_l11Copy) : Option (denV R_spec_l11Copy × denQ P_spec_l11Copy) :=
  (F_spec_l8Copy (x.1.1, ())).bind fun r1 =>
  if (([] : List (den Y67)).length + x.1.2.1.length) * 16 ≤ 140737488355328 then
    let v2 := (([] : List (den Y67)) ++ x.1.2.1)
    (F_spec_l3Copy (x.1.2.2.1, ())).bind fun r3 =>
    some (((r1.1.1.1, (r1.1.1.2.1, (r1.1.1.2.2.1, (r1.1.1.2.2.2.1, (r1.1.1.2.2.2.2.1, (r1.1.1.2.2.2.2.2.1, (r1.1.1.2.2.2.2.2.2.1, (r1.1.1.2.2.2.2.2.2.2.1, (r1.1.1.2.2.2.2.2.2.2.2.1, (v2, (r3.1.1, ()))))))))))), ()), ())
  else none
abbrev C_spec_l11Copy : Con := ⟨P_spec_l11Copy, R_spec_l11Copy, F_spec_l11Copy, false⟩
abbrev G_spec_l11Copy : Env := [(105, C_spec_l3Copy), (106, C_spec_l8Copy)]
theorem g_spec_l11Copy : EnvOk Tryz.prog G_spec_l11Copy := (env_cons s_spec_l3Copy (env_cons s_spec_l8Copy env_nil))
theorem r_spec_l11Copy (x) : runFn T G_spec_l11Copy [] Tryz.f70 P_spec_l11Copy R_spec_l11Copy x = F_spec_l11Copy x := by kernel_rfl
theorem s_spec_l11Copy : CallsOk Tryz.prog 70 C_spec_l11Copy :=
  fn_calls (L := []) hT g_spec_l11Copy Tryz.f70 (by kernel_rfl) (by kernel_rfl) (by kernel_rfl) (plain_ok (by kernel_rfl)) r_spec_l11Copy
/-! spec.RunSolo -/
abbrev P_spec_RunSolo : List PK := [.val Y47, .val YI]
abbrev R_spec_RunSolo : List VK := [.g [.dat YI, .own 2 YI, .dat YI, .own 2 YI, .dat .bool, .dat .bool, .dat .bool, .dat YI, .dat Y22, .own 2 YI, .own 68 Y67, .own 2 YI]]
abbrev i_spec_RunSolo_9 : Shp := { slots := [(1, .s (.dat YI)), (4, .s (.ptr 4 0)), (6, .s (.ptr 6 0)), (7, .s (.ptr 1227000 0)), (8, .s (.dat YI))], boxes := [(4, [.dat YI, .own 2 YI, .dat YI, .own 2 YI, .dat .bool, .dat .bool, .dat .bool, .dat YI, .own 2 YI, .own 2 YI, .own 68 Y67, .own 2 YI]), (6, [.own 2 YI, .dat YI, .own 2 YI, .dat .bool, .dat .bool, .dat .bool, .dat YI, .own 2 YI, .own 2 YI, .own 68 Y67, .own 2 YI]), (1227000, [.dat Y25, .own 2 YI, .dat YI, .own 2 YI, .dat YI, .own 2 YI, .dat .bool, .dat .bool, .dat .bool, .dat YI, .dat Y22, .own 2 YI, .dat YI])], rows := [] }
abbrev o_spec_RunSolo_9 : List (Ex × Shp) := [(.exit 0, { slots := [(4, .s (.ptr 4 0)), (6, .s (.ptr 6 0)), (7, .s (.ptr 1227000 0))], boxes := [(4, [.dat YI, .own 2 YI, .dat YI, .own 2 YI, .dat .bool, .dat .bool, .dat .bool, .dat YI, .own 2 YI, .own 2 YI, .own 68 Y67, .own 2 YI]), (6, [.own 2 YI, .dat YI, .own 2 YI, .dat .bool, .dat .bool, .dat .bool, .dat YI, .own 2 YI, .own 2 YI, .own 68 Y67, .own 2 YI]), (1227000, [.dat Y25, .own 2 YI, .dat YI, .own 2 YI, .dat YI, .own 2 YI, .dat .bool, .dat .bool, .dat .bool, .dat YI, .dat Y22, .own 2 YI, .dat YI])], rows := [] })]
def l_spec_RunSolo_9 (rec : i_spec_RunSolo_9.den → Option (denO o_spec_RunSolo_9)) (u9 : i_spec_RunSolo_9.den) : Option (denO o_spec_RunSolo_9) :=
  if (ltI u9.1.2.2.2.2.1 u9.1.1) then
    (F_spec_l10Step (u9.2.1.2.2.1, ())).bind fun r6 =>
    let v7 := (IntKind.i64.wrap (u9.1.2.2.2.2.1 + (1 : Int)))
    rec ((u9.1.1, ((), ((), ((), (v7, ()))))), ((u9.2.1.1, (u9.2.1.2.1, (r6.2.1, ()))), ()))
  else
    some (.inl (((), ((), ((), ()))), ((u9.2.1.1, (u9.2.1.2.1, (u9.2.1.2.2.1, ()))), ())))
def L_spec_RunSolo_9 (x : i_spec_RunSolo_9.den) : Option (denO o_spec_RunSolo_9) := iterF l_spec_RunSolo_9 lots x
def F_spec_RunSolo (x : denP P_spec_RunSolo) : Option (denV R_spec_RunSolo × denQ P_spec_RunSolo) :=
  (F_spec_SoloFault (x.1, ())).bind fun r1 =>
  if (r1.1.1 != (0 : Int)) then
    some (((r1.1.1, (([] : List (den YI)), ((0 : Int), (([] : List (den YI)), (false, (false, (false, ((0 : Int), (([] : List (den YI)), (([] : List (den YI)), (([] : List (den Y67)), (([] : List (den YI)), ())))))))))))), ()), ())
  else
    (F_spec_l1In (x.2.1, (0 : Int), (500 : Int), ())).bind fun r2 =>
    if (!r2.1.1) then
      some ((((3 : Int), (([] : List (den YI)), ((0 : Int), (([] : List (den YI)), (false, (false, (false, ((0 : Int), (([] : List (den YI)), (([] : List (den YI)), (([] : List (den Y67)), (([] : List (den YI)), ())))))))))))), ()), ())
    else
      (F_spec_l11Copy (x.1, ())).bind fun r3 =>
      (F_spec_l10New (x.1.1, x.1.2.1, x.1.2.2.1, ())).bind fun r4 =>
      (L_spec_RunSolo_9 ((x.2.1, ((), ((), ((), ((0 : Int), ()))))), ((((0 : Int), (([] : List (den YI)), ((0 : Int), (([] : List (den YI)), (false, (false, (false, ((0 : Int), (([] : List (den YI)), (([] : List (den YI)), (([] : List (den Y67)), (([] : List (den YI)), ())))))))))))), (r3.1.1, (r4.1.1, ()))), ()))).bind fun z8 =>
      match z8 with
      | .inl x9 =>
        some ((((0 : Int), (x9.2.1.2.2.1.2.2.2.1, (x9.2.1.2.2.1.2.2.2.2.1, (x9.2.1.2.2.1.2.2.2.2.2.1, (x9.2.1.2.2.1.2.2.2.2.2.2.1, (x9.2.1.2.2.1.2.2.2.2.2.2.2.1, (x9.2.1.2.2.1.2.2.2.2.2.2.2.2.1, (x9.2.1.2.2.1.2.2.2.2.2.2.2.2.2.1, (x9.2.1.2.2.1.2.2.2.2.2.2.2.2.2.2.1, (x9.2.1.2.2.1.2.2.2.2.2.2.2.2.2.2.2.1, (x9.2.1.2.1.2.2.2.2.2.2.2.2.2.1, (x9.2.1.2.2.1.2.1, ())))))))))))), ()), ())
      | .inr z8_ =>
        none
abbrev C_spec_RunSolo : Con := ⟨P_spec_RunSolo, R_spec_RunSolo, F_spec_RunSolo, false⟩
abbrev G_spec_RunSolo : Env := [(59, C_spec_l10New), (60, C_spec_l10Step), (65, C_spec_l1In), (69, C_spec_SoloFault), (70, C_spec_l11Copy)]
theorem g_spec_RunSolo : EnvOk Tryz.prog G_spec_RunSolo := (env_cons s_spec_l10New (env_cons s_spec_l10Step (env_cons s_spec_l1In (env_cons s_spec_SoloFault (env_cons s_spec_l11Copy env_nil)))))
abbrev c_spec_RunSolo_9 : Cut := ⟨i_spec_RunSolo_9, o_spec_RunSolo_9, fun x => iterF l_spec_RunSolo_9 lots x⟩
theorem t_spec_RunSolo_9 (rec x) : run T G_spec_RunSolo [] (nav Tryz.f29 [1, 1, 1, 1, 1, 0, 1, 0, 0]) (mk 47 i_spec_RunSolo_9 x) (loopK i_spec_RunSolo_9 o_spec_RunSolo_9 rec) = l_spec_RunSolo_9 rec x := by kernel_rfl
theorem k_spec_RunSolo_9 : CutOk Tryz.prog 47 (.loop (nav Tryz.f29 [1, 1, 1, 1, 1, 0, 1, 0, 0])) c_spec_RunSolo_9 :=
  loop_cut (L := []) hT g_spec_RunSolo t_spec_RunSolo_9 (plain_ok (by kernel_rfl)) _
theorem r_spec_RunSolo (x) : runFn T G_spec_RunSolo [(9, c_spec_RunSolo_9)] Tryz.f29 P_spec_RunSolo R_spec_RunSolo x = F_spec_RunSolo x := by kernel_rfl
theorem s_spec_RunSolo : CallsOk Tryz.prog 29 C_spec_RunSolo :=
  fn_calls (L := [(9, c_spec_RunSolo_9)]) hT g_spec_RunSolo Tryz.f29 (by kernel_rfl) (by kernel_rfl) (by kernel_rfl) (seq_ok (plain_ok (by kernel_rfl)) (seq_ok (plain_ok (by kernel_rfl)) (seq_ok (plain_ok (by kernel_rfl)) (seq_ok (plain_ok (by kernel_rfl)) (seq_ok (plain_ok (by kernel_rfl)) (seq_ok (seq_ok (plain_ok (by kernel_rfl)) (block_ok (by kernel_rfl) (loop_ok (by kernel_rfl) k_spec_RunSolo_9))) (plain_ok (by kernel_rfl)))))))) r_spec_RunSolo
/-! impl.SoloFault -/
abbrev P_impl_SoloFault : List PK := [.val Y47]
abbrev R_impl_SoloFault : List VK := [.s (.dat YI)]
def F_impl_SoloFault (x : denP P_impl_SoloFault) : Option (denV R_impl_SoloFault × denQ P_impl_SoloFault) :=
  (F_impl_HartFault (x.1.1, ())).bind fun r1 =>
  (F_impl_PagesFault (x.1.2.1, (8 : Int), ())).bind fun r2 =>
  (F_impl_firstOf ([r1.1.1, r2.1.1], ())).bind fun r3 =>
  if (r3.1.1 != (0 : Int)) then
    some ((r3.1.1, ()), ())
  else
    (F_impl_MemoryFault (x.1.2.2.1, ())).bind fun r4 =>
    if (r4.1.1 != (0 : Int)) = false then
      let v5 := ((x.1.2.2.1.length : Nat) : Int)
      if (v5 != (64 : Int)) then
        some (((1 : Int), ()), ())
      else
        some (((0 : Int), ()), ())
    else
      some (((1 : Int), ()), ())
abbrev C_impl_SoloFault : Con := ⟨P_impl_SoloFault, R_impl_SoloFault, F_impl_SoloFault, false⟩
abbrev G_impl_SoloFault : Env := [(39, C_impl_HartFault), (40, C_impl_MemoryFault), (113, C_impl_firstOf), (114, C_impl_PagesFault)]
theorem g_impl_SoloFault : EnvOk Tryz.prog G_impl_SoloFault := (env_cons s_impl_HartFault (env_cons s_impl_MemoryFault (env_cons s_impl_firstOf (env_cons s_impl_PagesFault env_nil))))
theorem r_impl_SoloFault (x) : runFn T G_impl_SoloFault [] Tryz.f71 P_impl_SoloFault R_impl_SoloFault x = F_impl_SoloFault x := by kernel_rfl
theorem s_impl_SoloFault : CallsOk Tryz.prog 71 C_impl_SoloFault :=
  fn_calls (L := []) hT g_impl_SoloFault Tryz.f71 (by kernel_rfl) (by kernel_rfl) (by kernel_rfl) (plain_ok (by kernel_rfl)) r_impl_SoloFault
/-! slices.Clone[impl.Page,impl.Page] -/
abbrev P_slices_Clone_impl_Page : List PK := [.val Y25]
abbrev R_slices_Clone_impl_Page : List VK := [.s (.own 68 Y67)]
def F_slices_Clone_impl_Page (x : denP P_slices_Clone_impl_Page) : Option (denV R_slices_Clone_impl_Page × denQ P_slices_Clone_impl_Page) :=
  if (([] : List (den Y67)).length + x.1.length) * 16 ≤ 140737488355328 then some (([] ++ x.1, ()), ()) else none
abbrev C_slices_Clone_impl_Page : Con := ⟨P_slices_Clone_impl_Page, R_slices_Clone_impl_Page, F_slices_Clone_impl_Page, false⟩
theorem s_slices_Clone_impl_Page : CallsOk Tryz.prog 169 C_slices_Clone_impl_Page :=
  nil_first hT (fn := Tryz.f169) (cn := C_slices_Clone_impl_Page) (c0 := nav Tryz.f169 [0]) (ca := nav Tryz.f169 [1, 0, 1, 0]) (cb := nav Tryz.f169 [1, 1]) (id := 1) (d := 4) (nm := 1032000) (o1 := navOp Tryz.f169 [1, 0, 0] 0) (o2 := navOp Tryz.f169 [1, 0, 0] 1)
    (t := 33) (t' := 33) (x := .tmp 3) (r := ⟨Y25, [], 68, 24, 0⟩) (u := Y67) (by kernel_rfl) (by kernel_rfl) (by kernel_rfl) ⟨by kernel_rfl, by kernel_rfl⟩ (fun y => by kernel_rfl) (by kernel_rfl) (by kernel_rfl) (by kernel_rfl) (by kernel_rfl) (by kernel_rfl) rfl
    (fun y => (st0 Tryz.f169 P_slices_Clone_impl_Page y).set 2 (.s .nls)) (fun y => ((st0 Tryz.f169 P_slices_Clone_impl_Page y).set 2 (.s .nls)).set 3 (.s (.d (.slice Y67) y.1))) (fun y => y.1)
    (fun y => by kernel_rfl) (fun y => by kernel_rfl) (fun y => by kernel_rfl) (fun y => Nat.le_of_ble_eq_true (by kernel_rfl)) (fun y => by kernel_rfl) (by kernel_rfl) (by kernel_rfl) (by kernel_rfl) (fun y => by kernel_rfl)
    (fun y h => by obtain ⟨l, v⟩ := y; have h : l = [] := h; subst h; show run _ _ _ _ _ _ = F_slices_Clone_impl_Page ([], v); kernel_rfl) (fun y => by kernel_rfl)
/-! impl.ownPages -/
abbrev P_impl_ownPages : List PK := [.val Y25]
abbrev R_impl_ownPages : List VK := [.s (.own 68 Y67)]
def F_impl_ownPages (x : denP P_impl_ownPages) : Option (denV R_impl_ownPages × denQ P_impl_ownPages) :=
  (F_slices_Clone_impl_Page (x.1, ())).bind fun r1 =>
  some ((r1.1.1, ()), ())
abbrev C_impl_ownPages : Con := ⟨P_impl_ownPages, R_impl_ownPages, F_impl_ownPages, false⟩
abbrev G_impl_ownPages : Env := [(169, C_slices_Clone_impl_Page)]
theorem g_impl_ownPages : EnvOk Tryz.prog G_impl_ownPages := (env_cons s_slices_Clone_impl_Page env_nil)
theorem r_impl_ownPages (x) : runFn T G_impl_ownPages [] Tryz.f119 P_impl_ownPages R_impl_ownPages x = F_impl_ownPages x := by kernel_rfl
theorem s_impl_ownPages : CallsOk Tryz.prog 119 C_impl_ownPages :=
  fn_calls (L := []) hT g_impl_ownPages Tryz.f119 (by kernel_rfl) (by kernel_rfl) (by kernel_rfl) (plain_ok (by kernel_rfl)) r_impl_ownPages
/-! (impl.Solo).run -/
abbrev P_impl_Solo_run : List PK := [.val Y47, .val YI]
abbrev R_impl_Solo_run : List VK := [.g [.own 2 YI, .dat YI, .own 2 YI, .dat .bool, .dat .bool, .dat .bool, .dat YI, .own 2 YI, .own 2 YI, .own 68 Y67, .own 2 YI]]
def F_impl_Solo_run (x : denP P_impl_Solo_run) : Option (denV R_impl_Solo_run × denQ P_impl_Solo_run) :=
  (F_impl_stepped (x.1.1, x.1.2.1, x.1.2.2.1, x.2.1, ())).bind fun r1 =>
  (F_impl_ownPages (x.1.2.1, ())).bind fun r2 =>
  some (((r1.1.1.2.2.2.1, (r1.1.1.2.2.2.2.1, (r1.1.1.2.2.2.2.2.1, (r1.1.1.2.2.2.2.2.2.1, (r1.1.1.2.2.2.2.2.2.2.1, (r1.1.1.2.2.2.2.2.2.2.2.1, (r1.1.1.2.2.2.2.2.2.2.2.2.1, (r1.1.1.2.2.2.2.2.2.2.2.2.2.1, (r1.1.1.2.2.2.2.2.2.2.2.2.2.2.1, (r2.1.1, (r1.1.1.2.2.2.2.2.2.2.2.2.2.2.2.1, ()))))))))))), ()), ())
abbrev C_impl_Solo_run : Con := ⟨P_impl_Solo_run, R_impl_Solo_run, F_impl_Solo_run, false⟩
abbrev G_impl_Solo_run : Env := [(68, C_impl_stepped), (119, C_impl_ownPages)]
theorem g_impl_Solo_run : EnvOk Tryz.prog G_impl_Solo_run := (env_cons s_impl_stepped (env_cons s_impl_ownPages env_nil))
theorem r_impl_Solo_run (x) : runFn T G_impl_Solo_run [] Tryz.f72 P_impl_Solo_run R_impl_Solo_run x = F_impl_Solo_run x := by kernel_rfl
theorem s_impl_Solo_run : CallsOk Tryz.prog 72 C_impl_Solo_run :=
  fn_calls (L := []) hT g_impl_Solo_run Tryz.f72 (by kernel_rfl) (by kernel_rfl) (by kernel_rfl) (plain_ok (by kernel_rfl)) r_impl_Solo_run
/-! impl.RunSolo -/
abbrev P_impl_RunSolo : List PK := [.val Y47, .val YI]
abbrev R_impl_RunSolo : List VK := [.g [.dat YI, .own 2 YI, .dat YI, .own 2 YI, .dat .bool, .dat .bool, .dat .bool, .dat YI, .own 2 YI, .own 2 YI, .own 68 Y67, .own 2 YI]]
def F_impl_RunSolo (x : denP P_impl_RunSolo) : Option (denV R_impl_RunSolo × denQ P_impl_RunSolo) :=
  (F_impl_SoloFault (x.1, ())).bind fun r1 =>
  if (r1.1.1 != (0 : Int)) then
    some (((r1.1.1, (([] : List (den YI)), ((0 : Int), (([] : List (den YI)), (false, (false, (false, ((0 : Int), (([] : List (den YI)), (([] : List (den YI)), (([] : List (den Y67)), (([] : List (den YI)), ())))))))))))), ()), ())
  else
    (F_impl_within (x.2.1, (0 : Int), (500 : Int), ())).bind fun r2 =>
    if (!r2.1.1) then
      some ((((3 : Int), (([] : List (den YI)), ((0 : Int), (([] : List (den YI)), (false, (false, (false, ((0 : Int), (([] : List (den YI)), (([] : List (den YI)), (([] : List (den Y67)), (([] : List (den YI)), ())))))))))))), ()), ())
    else
      (F_impl_Solo_run (x.1, x.2.1, ())).bind fun r3 =>
      some ((((0 : Int), r3.1.1), ()), ())
abbrev C_impl_RunSolo : Con := ⟨P_impl_RunSolo, R_impl_RunSolo, F_impl_RunSolo, false⟩
abbrev G_impl_RunSolo : Env := [(67, C_impl_within), (71, C_impl_SoloFault), (72, C_impl_Solo_run)]
theorem g_impl_RunSolo : EnvOk Tryz.prog G_impl_RunSolo := (env_cons s_impl_within (env_cons s_impl_SoloFault (env_cons s_impl_Solo_run env_nil)))
theorem r_impl_RunSolo (x) : runFn T G_impl_RunSolo [] Tryz.f31 P_impl_RunSolo R_impl_RunSolo x = F_impl_RunSolo x := by kernel_rfl
theorem s_impl_RunSolo : CallsOk Tryz.prog 31 C_impl_RunSolo :=
  fn_calls (L := []) hT g_impl_RunSolo Tryz.f31 (by kernel_rfl) (by kernel_rfl) (by kernel_rfl) (plain_ok (by kernel_rfl)) r_impl_RunSolo
/-! laws.eqSolo -/
abbrev P_laws_eqSolo : List PK := [.val Y47, .val Y47]
abbrev R_laws_eqSolo : List VK := [.s (.dat .bool)]
def F_laws_eqSolo (x : denP P_laws_eqSolo) : Option (denV R_laws_eqSolo × denQ P_laws_eqSolo) :=
  (F_laws_eqHart (x.1.1, x.2.1.1, ())).bind fun r1 =>
  if (!r1.1.1) then
    some ((false, ()), ())
  else
    (F_laws_eqPageS (x.1.2.1, x.2.1.2.1, ())).bind fun r2 =>
    if (!r2.1.1) then
      some ((false, ()), ())
    else
      (F_laws_eqInt64S (x.1.2.2.1, x.2.1.2.2.1, ())).bind fun r3 =>
      if (!r3.1.1) then
        some ((false, ()), ())
      else
        some ((true, ()), ())
abbrev C_laws_eqSolo : Con := ⟨P_laws_eqSolo, R_laws_eqSolo, F_laws_eqSolo, false⟩
abbrev G_laws_eqSolo : Env := [(18, C_laws_eqHart), (19, C_laws_eqPageS), (20, C_laws_eqInt64S)]
theorem g_laws_eqSolo : EnvOk Tryz.prog G_laws_eqSolo := (env_cons s_laws_eqHart (env_cons s_laws_eqPageS (env_cons s_laws_eqInt64S env_nil)))
theorem r_laws_eqSolo (x) : runFn T G_laws_eqSolo [] Tryz.f33 P_laws_eqSolo R_laws_eqSolo x = F_laws_eqSolo x := by kernel_rfl
theorem s_laws_eqSolo : CallsOk Tryz.prog 33 C_laws_eqSolo :=
  fn_calls (L := []) hT g_laws_eqSolo Tryz.f33 (by kernel_rfl) (by kernel_rfl) (by kernel_rfl) (plain_ok (by kernel_rfl)) r_laws_eqSolo
/-! laws.eqSoloResult -/
abbrev P_laws_eqSoloResult : List PK := [.val Y52, .val Y52]
abbrev R_laws_eqSoloResult : List VK := [.s (.dat .bool)]
def F_laws_eqSoloResult (x : denP P_laws_eqSoloResult) : Option (denV R_laws_eqSoloResult × denQ P_laws_eqSoloResult) :=
  if (x.1.1 != x.2.1.1) then
    some ((false, ()), ())
  else
    (F_laws_eqSolo (x.1.2.1, x.2.1.2.1, ())).bind fun r1 =>
    if (!r1.1.1) then
      some ((false, ()), ())
    else
      some ((true, ()), ())
abbrev C_laws_eqSoloResult : Con := ⟨P_laws_eqSoloResult, R_laws_eqSoloResult, F_laws_eqSoloResult, false⟩
abbrev G_laws_eqSoloResult : Env := [(33, C_laws_eqSolo)]
theorem g_laws_eqSoloResult : EnvOk Tryz.prog G_laws_eqSoloResult := (env_cons s_laws_eqSolo env_nil)
theorem r_laws_eqSoloResult (x) : runFn T G_laws_eqSoloResult [] Tryz.f32 P_laws_eqSoloResult R_laws_eqSoloResult x = F_laws_eqSoloResult x := by kernel_rfl
theorem s_laws_eqSoloResult : CallsOk Tryz.prog 32 C_laws_eqSoloResult :=
  fn_calls (L := []) hT g_laws_eqSoloResult Tryz.f32 (by kernel_rfl) (by kernel_rfl) (by kernel_rfl) (plain_ok (by kernel_rfl)) r_laws_eqSoloResult
/-! laws.markSolo -/
abbrev P_laws_markSolo : List PK := [.agg [.own 2 YI, .dat YI, .own 2 YI, .dat .bool, .dat .bool, .dat .bool, .dat YI, .own 2 YI, .own 2 YI, .own 68 Y67, .own 2 YI], .val YI]
abbrev R_laws_markSolo : List VK := [.s (.dat YI)]
def F_laws_markSolo (x : denP P_laws_markSolo) : Option (denV R_laws_markSolo × denQ P_laws_markSolo) :=
  (F_laws_markHart ((x.1.1, (x.1.2.1, (x.1.2.2.1, (x.1.2.2.2.1, (x.1.2.2.2.2.1, (x.1.2.2.2.2.2.1, (x.1.2.2.2.2.2.2.1, (x.1.2.2.2.2.2.2.2.1, (x.1.2.2.2.2.2.2.2.2.1, ()))))))))), x.2.1, ())).bind fun r1 =>
  if (((x.1.1.length == r1.2.1.1.length && (x.1.2.2.1.length == r1.2.1.2.1.length && (x.1.2.2.2.2.2.2.2.1.length == r1.2.1.2.2.1.length && (x.1.2.2.2.2.2.2.2.2.1.length == r1.2.1.2.2.2.1.length && true)))) && true) && true) = true then
    (F_laws_markPageS (x.1.2.2.2.2.2.2.2.2.2.1, r1.1.1, ())).bind fun r2 =>
    if ((x.1.2.2.2.2.2.2.2.2.2.1.length == r2.2.1.length && true) && true) = true then
      (F_laws_markInt64S (x.1.2.2.2.2.2.2.2.2.2.2.1, r2.1.1, ())).bind fun r3 =>
      if ((x.1.2.2.2.2.2.2.2.2.2.2.1.length == r3.2.1.length && true) && true) = true then
        if ((x.1.1.length == r1.2.1.1.length && (x.1.2.2.1.length == r1.2.1.2.1.length && (x.1.2.2.2.2.2.2.2.1.length == r1.2.1.2.2.1.length && (x.1.2.2.2.2.2.2.2.2.1.length == r1.2.1.2.2.2.1.length && (x.1.2.2.2.2.2.2.2.2.2.1.length == r2.2.1.length && (x.1.2.2.2.2.2.2.2.2.2.2.1.length == r3.2.1.length && true)))))) && true) = true then
          some ((r3.1.1, ()), ((r1.2.1.1, (r1.2.1.2.1, (r1.2.1.2.2.1, (r1.2.1.2.2.2.1, (r2.2.1, (r3.2.1, ())))))), ()))
        else none
      else none
    else none
  else none
abbrev C_laws_markSolo : Con := ⟨P_laws_markSolo, R_laws_markSolo, F_laws_markSolo, false⟩
abbrev G_laws_markSolo : Env := [(21, C_laws_markHart), (22, C_laws_markPageS), (23, C_laws_markInt64S)]
theorem g_laws_markSolo : EnvOk Tryz.prog G_laws_markSolo := (env_cons s_laws_markHart (env_cons s_laws_markPageS (env_cons s_laws_markInt64S env_nil)))
theorem r_laws_markSolo (x) : runFn T G_laws_markSolo [] Tryz.f34 P_laws_markSolo R_laws_markSolo x = F_laws_markSolo x := by kernel_rfl
theorem s_laws_markSolo : CallsOk Tryz.prog 34 C_laws_markSolo :=
  fn_calls (L := []) hT g_laws_markSolo Tryz.f34 (by kernel_rfl) (by kernel_rfl) (by kernel_rfl) (plain_ok (by kernel_rfl)) r_laws_markSolo
/-! laws.markSoloResult -/
abbrev P_laws_markSoloResult : List PK := [.agg [.dat YI, .own 2 YI, .dat YI, .own 2 YI, .dat .bool, .dat .bool, .dat .bool, .dat YI, .own 2 YI, .own 2 YI, .own 68 Y67, .own 2 YI], .val YI]
abbrev R_laws_markSoloResult : List VK := [.s (.dat YI)]
def F_laws_markSoloResult (x : denP P_laws_markSoloResult) : Option (denV R_laws_markSoloResult × denQ P_laws_markSoloResult) :=
  (F_laws_markSolo ((x.1.2.1, (x.1.2.2.1, (x.1.2.2.2.1, (x.1.2.2.2.2.1, (x.1.2.2.2.2.2.1, (x.1.2.2.2.2.2.2.1, (x.1.2.2.2.2.2.2.2.1, (x.1.2.2.2.2.2.2.2.2.1, (x.1.2.2.2.2.2.2.2.2.2.1, (x.1.2.2.2.2.2.2.2.2.2.2.1, (x.1.2.2.2.2.2.2.2.2.2.2.2.1, ()))))))))))), x.2.1, ())).bind fun r1 =>
  if (((x.1.2.1.length == r1.2.1.1.length && (x.1.2.2.2.1.length == r1.2.1.2.1.length && (x.1.2.2.2.2.2.2.2.2.1.length == r1.2.1.2.2.1.length && (x.1.2.2.2.2.2.2.2.2.2.1.length == r1.2.1.2.2.2.1.length && (x.1.2.2.2.2.2.2.2.2.2.2.1.length == r1.2.1.2.2.2.2.1.length && (x.1.2.2.2.2.2.2.2.2.2.2.2.1.length == r1.2.1.2.2.2.2.2.1.length && true)))))) && true) && true) = true then
    if ((x.1.2.1.length == r1.2.1.1.length && (x.1.2.2.2.1.length == r1.2.1.2.1.length && (x.1.2.2.2.2.2.2.2.2.1.length == r1.2.1.2.2.1.length && (x.1.2.2.2.2.2.2.2.2.2.1.length == r1.2.1.2.2.2.1.length && (x.1.2.2.2.2.2.2.2.2.2.2.1.length == r1.2.1.2.2.2.2.1.length && (x.1.2.2.2.2.2.2.2.2.2.2.2.1.length == r1.2.1.2.2.2.2.2.1.length && true)))))) && true) = true then
      some ((r1.1.1, ()), ((r1.2.1.1, (r1.2.1.2.1, (r1.2.1.2.2.1, (r1.2.1.2.2.2.1, (r1.2.1.2.2.2.2.1, (r1.2.1.2.2.2.2.2.1, ())))))), ()))
    else none
  else none
abbrev C_laws_markSoloResult : Con := ⟨P_laws_markSoloResult, R_laws_markSoloResult, F_laws_markSoloResult, false⟩
abbrev G_laws_markSoloResult : Env := [(34, C_laws_markSolo)]
theorem g_laws_markSoloResult : EnvOk Tryz.prog G_laws_markSoloResult := (env_cons s_laws_markSolo env_nil)
theorem r_laws_markSoloResult (x) : runFn T G_laws_markSoloResult [] Tryz.f35 P_laws_markSoloResult R_laws_markSoloResult x = F_laws_markSoloResult x := by kernel_rfl
theorem s_laws_markSoloResult : CallsOk Tryz.prog 35 C_laws_markSoloResult :=
  fn_calls (L := []) hT g_laws_markSoloResult Tryz.f35 (by kernel_rfl) (by kernel_rfl) (by kernel_rfl) (plain_ok (by kernel_rfl)) r_laws_markSoloResult
/-! laws.heldPageS -/
abbrev P_laws_heldPageS : List PK := [.val Y25, .val YI]
abbrev R_laws_heldPageS : List VK := [.s (.dat YI)]
abbrev i_laws_heldPageS_2 : Shp := { slots := [(0, .s (.dat Y25)), (1, .s (.dat YI)), (5, .s (.dat YI))], boxes := [], rows := [] }
abbrev o_laws_heldPageS_2 : List (Ex × Shp) := [(.exit 0, { slots := [(1, .s (.dat YI))], boxes := [], rows := [] }), (.ret, { slots := [(4, .s (.dat YI))], boxes := [], rows := [] })]
def l_laws_heldPageS_2 (rec : i_laws_heldPageS_2.den → Option (denO o_laws_heldPageS_2)) (u2 : i_laws_heldPageS_2.den) : Option (denO o_laws_heldPageS_2) :=
  let v3 := ((u2.1.1.length : Nat) : Int)
  if (ltI u2.1.2.2.1 v3) then
    if 0 ≤ u2.1.2.2.1 then
      ((u2.1.1)[(u2.1.2.2.1).toNat]?).bind fun y4 =>
      if (y4.1 != u2.1.2.1) then
        some (.inr (.inl (((-1 : Int), ()), ((), ()))))
      else
        let v5 := (IntKind.i64.wrap (u2.1.2.1 + (1 : Int)))
        if 0 ≤ u2.1.2.2.1 then
          ((u2.1.1)[(u2.1.2.2.1).toNat]?).bind fun y6 =>
          if (y6.2.1 != v5) then
            some (.inr (.inl (((-1 : Int), ()), ((), ()))))
          else
            let v7 := (IntKind.i64.wrap (v5 + (1 : Int)))
            let v8 := (IntKind.i64.wrap (u2.1.2.2.1 + (1 : Int)))
            rec ((u2.1.1, (v7, (v8, ()))), ((), ()))
        else none
    else none
  else
    some (.inl ((u2.1.2.1, ()), ((), ())))
def L_laws_heldPageS_2 (x : i_laws_heldPageS_2.den) : Option (denO o_laws_heldPageS_2) := iterF l_laws_heldPageS_2 lots x
def F_laws_heldPageS (x : denP P_laws_heldPageS) : Option (denV R_laws_heldPageS × denQ P_laws_heldPageS) :=
  (L_laws_heldPageS_2 ((x.1, (x.2.1, ((0 : Int), ()))), ((), ()))).bind fun z9 =>
  match z9 with
  | .inl x10 =>
    some ((x10.1.1, ()), ())
  | .inr z9_ =>
    match z9_ with
    | .inl x11 =>
      some ((x11.1.1, ()), ())
    | .inr z9__ =>
      none
abbrev C_laws_heldPageS : Con := ⟨P_laws_heldPageS, R_laws_heldPageS, F_laws_heldPageS, false⟩
abbrev G_laws_heldPageS : Env := []
theorem g_laws_heldPageS : EnvOk Tryz.prog G_laws_heldPageS := env_nil
abbrev c_laws_heldPageS_2 : Cut := ⟨i_laws_heldPageS_2, o_laws_heldPageS_2, fun x => iterF l_laws_heldPageS_2 lots x⟩
theorem t_laws_heldPageS_2 (rec x) : run T G_laws_heldPageS [] (nav Tryz.f120 [1, 0, 1, 0, 0]) (mk 31 i_laws_heldPageS_2 x) (loopK i_laws_heldPageS_2 o_laws_heldPageS_2 rec) = l_laws_heldPageS_2 rec x := by kernel_rfl
theorem k_laws_heldPageS_2 : CutOk Tryz.prog 31 (.loop (nav Tryz.f120 [1, 0, 1, 0, 0])) c_laws_heldPageS_2 :=
  loop_cut (L := []) hT g_laws_heldPageS t_laws_heldPageS_2 (plain_ok (by kernel_rfl)) _
theorem r_laws_heldPageS (x) : runFn T G_laws_heldPageS [(2, c_laws_heldPageS_2)] Tryz.f120 P_laws_heldPageS R_laws_heldPageS x = F_laws_heldPageS x := by kernel_rfl
theorem s_laws_heldPageS : CallsOk Tryz.prog 120 C_laws_heldPageS :=
  fn_calls (L := [(2, c_laws_heldPageS_2)]) hT g_laws_heldPageS Tryz.f120 (by kernel_rfl) (by kernel_rfl) (by kernel_rfl) (seq_ok (plain_ok (by kernel_rfl)) (seq_ok (seq_ok (plain_ok (by kernel_rfl)) (block_ok (by kernel_rfl) (loop_ok (by kernel_rfl) k_laws_heldPageS_2))) (plain_ok (by kernel_rfl)))) r_laws_heldPageS
/-! laws.heldSolo -/
abbrev P_laws_heldSolo : List PK := [.val Y47, .val YI]
abbrev R_laws_heldSolo : List VK := [.s (.dat YI)]
def F_laws_heldSolo (x : denP P_laws_heldSolo) : Option (denV R_laws_heldSolo × denQ P_laws_heldSolo) :=
  (F_laws_heldHart (x.1.1, x.2.1, ())).bind fun r1 =>
  if (ltI r1.1.1 (0 : Int)) then
    some (((-1 : Int), ()), ())
  else
    (F_laws_heldPageS (x.1.2.1, r1.1.1, ())).bind fun r2 =>
    if (ltI r2.1.1 (0 : Int)) then
      some (((-1 : Int), ()), ())
    else
      (F_laws_heldInt64S (x.1.2.2.1, r2.1.1, ())).bind fun r3 =>
      if (ltI r3.1.1 (0 : Int)) then
        some (((-1 : Int), ()), ())
      else
        some ((r3.1.1, ()), ())
abbrev C_laws_heldSolo : Con := ⟨P_laws_heldSolo, R_laws_heldSolo, F_laws_heldSolo, false⟩
abbrev G_laws_heldSolo : Env := [(63, C_laws_heldHart), (64, C_laws_heldInt64S), (120, C_laws_heldPageS)]
theorem g_laws_heldSolo : EnvOk Tryz.prog G_laws_heldSolo := (env_cons s_laws_heldHart (env_cons s_laws_heldInt64S (env_cons s_laws_heldPageS env_nil)))
theorem r_laws_heldSolo (x) : runFn T G_laws_heldSolo [] Tryz.f73 P_laws_heldSolo R_laws_heldSolo x = F_laws_heldSolo x := by kernel_rfl
theorem s_laws_heldSolo : CallsOk Tryz.prog 73 C_laws_heldSolo :=
  fn_calls (L := []) hT g_laws_heldSolo Tryz.f73 (by kernel_rfl) (by kernel_rfl) (by kernel_rfl) (plain_ok (by kernel_rfl)) r_laws_heldSolo
/-! laws.heldSoloResult -/
abbrev P_laws_heldSoloResult : List PK := [.val Y52, .val YI]
abbrev R_laws_heldSoloResult : List VK := [.s (.dat YI)]
def F_laws_heldSoloResult (x : denP P_laws_heldSoloResult) : Option (denV R_laws_heldSoloResult × denQ P_laws_heldSoloResult) :=
  (F_laws_heldSolo (x.1.2.1, x.2.1, ())).bind fun r1 =>
  if (ltI r1.1.1 (0 : Int)) then
    some (((-1 : Int), ()), ())
  else
    some ((r1.1.1, ()), ())
abbrev C_laws_heldSoloResult : Con := ⟨P_laws_heldSoloResult, R_laws_heldSoloResult, F_laws_heldSoloResult, false⟩
abbrev G_laws_heldSoloResult : Env := [(73, C_laws_heldSolo)]
theorem g_laws_heldSoloResult : EnvOk Tryz.prog G_laws_heldSoloResult := (env_cons s_laws_heldSolo env_nil)
theorem r_laws_heldSoloResult (x) : runFn T G_laws_heldSoloResult [] Tryz.f36 P_laws_heldSoloResult R_laws_heldSoloResult x = F_laws_heldSoloResult x := by kernel_rfl
theorem s_laws_heldSoloResult : CallsOk Tryz.prog 36 C_laws_heldSoloResult :=
  fn_calls (L := []) hT g_laws_heldSoloResult Tryz.f36 (by kernel_rfl) (by kernel_rfl) (by kernel_rfl) (plain_ok (by kernel_rfl)) r_laws_heldSoloResult
/-! laws.FnExactRunSolo -/
abbrev P_laws_FnExactRunSolo : List PK := [.val Y47, .val YI]
abbrev R_laws_FnExactRunSolo : List VK := [.s (.dat .bool)]
def F_laws_FnExactRunSolo (x : denP P_laws_FnExactRunSolo) : Option (denV R_laws_FnExactRunSolo × denQ P_laws_FnExactRunSolo) :=
  (F_laws_szSolo (x.1, (1048576 : Int), ())).bind fun r1 =>
  if (ltI r1.1.1 (0 : Int)) then
    some ((true, ()), ())
  else
    (F_laws_toSolo (x.1, ())).bind fun r2 =>
    (F_spec_RunSolo (((r2.1.1.1, (r2.1.1.2.1, (r2.1.1.2.2.1, (r2.1.1.2.2.2.1, (r2.1.1.2.2.2.2.1, (r2.1.1.2.2.2.2.2.1, (r2.1.1.2.2.2.2.2.2.1, (r2.1.1.2.2.2.2.2.2.2.1, (r2.1.1.2.2.2.2.2.2.2.2.1, ()))))))))), (r2.1.1.2.2.2.2.2.2.2.2.2.1, (r2.1.1.2.2.2.2.2.2.2.2.2.2.1, ()))), x.2.1, ())).bind fun r3 =>
    (F_laws_toSolo (x.1, ())).bind fun r4 =>
    (F_impl_RunSolo (((r4.1.1.1, (r4.1.1.2.1, (r4.1.1.2.2.1, (r4.1.1.2.2.2.1, (r4.1.1.2.2.2.2.1, (r4.1.1.2.2.2.2.2.1, (r4.1.1.2.2.2.2.2.2.1, (r4.1.1.2.2.2.2.2.2.2.1, (r4.1.1.2.2.2.2.2.2.2.2.1, ()))))))))), (r4.1.1.2.2.2.2.2.2.2.2.2.1, (r4.1.1.2.2.2.2.2.2.2.2.2.2.1, ()))), x.2.1, ())).bind fun r5 =>
    (F_laws_eqSoloResult ((r5.1.1.1, (((r5.1.1.2.1, (r5.1.1.2.2.1, (r5.1.1.2.2.2.1, (r5.1.1.2.2.2.2.1, (r5.1.1.2.2.2.2.2.1, (r5.1.1.2.2.2.2.2.2.1, (r5.1.1.2.2.2.2.2.2.2.1, (r5.1.1.2.2.2.2.2.2.2.2.1, (r5.1.1.2.2.2.2.2.2.2.2.2.1, ()))))))))), (r5.1.1.2.2.2.2.2.2.2.2.2.2.1, (r5.1.1.2.2.2.2.2.2.2.2.2.2.2.1, ()))), ())), (r3.1.1.1, (((r3.1.1.2.1, (r3.1.1.2.2.1, (r3.1.1.2.2.2.1, (r3.1.1.2.2.2.2.1, (r3.1.1.2.2.2.2.2.1, (r3.1.1.2.2.2.2.2.2.1, (r3.1.1.2.2.2.2.2.2.2.1, (r3.1.1.2.2.2.2.2.2.2.2.1, (r3.1.1.2.2.2.2.2.2.2.2.2.1, ()))))))))), (r3.1.1.2.2.2.2.2.2.2.2.2.2.1, (r3.1.1.2.2.2.2.2.2.2.2.2.2.2.1, ()))), ())), ())).bind fun r6 =>
    if (!r6.1.1) then
      some ((false, ()), ())
    else
      (F_laws_toSolo (x.1, ())).bind fun r7 =>
      (F_laws_eqSolo (((r4.1.1.1, (r4.1.1.2.1, (r4.1.1.2.2.1, (r4.1.1.2.2.2.1, (r4.1.1.2.2.2.2.1, (r4.1.1.2.2.2.2.2.1, (r4.1.1.2.2.2.2.2.2.1, (r4.1.1.2.2.2.2.2.2.2.1, (r4.1.1.2.2.2.2.2.2.2.2.1, ()))))))))), (r4.1.1.2.2.2.2.2.2.2.2.2.1, (r4.1.1.2.2.2.2.2.2.2.2.2.2.1, ()))), ((r7.1.1.1, (r7.1.1.2.1, (r7.1.1.2.2.1, (r7.1.1.2.2.2.1, (r7.1.1.2.2.2.2.1, (r7.1.1.2.2.2.2.2.1, (r7.1.1.2.2.2.2.2.2.1, (r7.1.1.2.2.2.2.2.2.2.1, (r7.1.1.2.2.2.2.2.2.2.2.1, ()))))))))), (r7.1.1.2.2.2.2.2.2.2.2.2.1, (r7.1.1.2.2.2.2.2.2.2.2.2.2.1, ()))), ())).bind fun r8 =>
      if (!r8.1.1) then
        some ((false, ()), ())
      else
        (F_laws_markSolo (r4.1.1, (1 : Int), ())).bind fun r9 =>
        if (((r4.1.1.1.length == r9.2.1.1.length && (r4.1.1.2.2.1.length == r9.2.1.2.1.length && (r4.1.1.2.2.2.2.2.2.2.1.length == r9.2.1.2.2.1.length && (r4.1.1.2.2.2.2.2.2.2.2.1.length == r9.2.1.2.2.2.1.length && (r4.1.1.2.2.2.2.2.2.2.2.2.1.length == r9.2.1.2.2.2.2.1.length && (r4.1.1.2.2.2.2.2.2.2.2.2.2.1.length == r9.2.1.2.2.2.2.2.1.length && true)))))) && true) && true) = true then
          if (ltI r9.1.1 (0 : Int)) = false then
            (F_laws_eqSoloResult ((r5.1.1.1, (((r5.1.1.2.1, (r5.1.1.2.2.1, (r5.1.1.2.2.2.1, (r5.1.1.2.2.2.2.1, (r5.1.1.2.2.2.2.2.1, (r5.1.1.2.2.2.2.2.2.1, (r5.1.1.2.2.2.2.2.2.2.1, (r5.1.1.2.2.2.2.2.2.2.2.1, (r5.1.1.2.2.2.2.2.2.2.2.2.1, ()))))))))), (r5.1.1.2.2.2.2.2.2.2.2.2.2.1, (r5.1.1.2.2.2.2.2.2.2.2.2.2.2.1, ()))), ())), (r3.1.1.1, (((r3.1.1.2.1, (r3.1.1.2.2.1, (r3.1.1.2.2.2.1, (r3.1.1.2.2.2.2.1, (r3.1.1.2.2.2.2.2.1, (r3.1.1.2.2.2.2.2.2.1, (r3.1.1.2.2.2.2.2.2.2.1, (r3.1.1.2.2.2.2.2.2.2.2.1, (r3.1.1.2.2.2.2.2.2.2.2.2.1, ()))))))))), (r3.1.1.2.2.2.2.2.2.2.2.2.2.1, (r3.1.1.2.2.2.2.2.2.2.2.2.2.2.1, ()))), ())), ())).bind fun r10 =>
            if (!r10.1.1) then
              some ((false, ()), ())
            else
              (F_laws_markSoloResult (r5.1.1, (1 : Int), ())).bind fun r11 =>
              if (((r5.1.1.2.1.length == r11.2.1.1.length && (r5.1.1.2.2.2.1.length == r11.2.1.2.1.length && (r5.1.1.2.2.2.2.2.2.2.2.1.length == r11.2.1.2.2.1.length && (r5.1.1.2.2.2.2.2.2.2.2.2.1.length == r11.2.1.2.2.2.1.length && (r5.1.1.2.2.2.2.2.2.2.2.2.2.1.length == r11.2.1.2.2.2.2.1.length && (r5.1.1.2.2.2.2.2.2.2.2.2.2.2.1.length == r11.2.1.2.2.2.2.2.1.length && true)))))) && true) && true) = true then
                (F_laws_heldSoloResult ((r5.1.1.1, (((r11.2.1.1, (r5.1.1.2.2.1, (r11.2.1.2.1, (r5.1.1.2.2.2.2.1, (r5.1.1.2.2.2.2.2.1, (r5.1.1.2.2.2.2.2.2.1, (r5.1.1.2.2.2.2.2.2.2.1, (r11.2.1.2.2.1, (r11.2.1.2.2.2.1, ()))))))))), (r11.2.1.2.2.2.2.1, (r11.2.1.2.2.2.2.2.1, ()))), ())), (1 : Int), ())).bind fun r12 =>
                if (ltI r12.1.1 (0 : Int)) then
                  some ((false, ()), ())
                else
                  if (r12.1.1 != r11.1.1) then
                    some ((false, ()), ())
                  else
                    (F_laws_toSolo (x.1, ())).bind fun r13 =>
                    (F_impl_RunSolo (((r13.1.1.1, (r13.1.1.2.1, (r13.1.1.2.2.1, (r13.1.1.2.2.2.1, (r13.1.1.2.2.2.2.1, (r13.1.1.2.2.2.2.2.1, (r13.1.1.2.2.2.2.2.2.1, (r13.1.1.2.2.2.2.2.2.2.1, (r13.1.1.2.2.2.2.2.2.2.2.1, ()))))))))), (r13.1.1.2.2.2.2.2.2.2.2.2.1, (r13.1.1.2.2.2.2.2.2.2.2.2.2.1, ()))), x.2.1, ())).bind fun r14 =>
                    (F_laws_eqSoloResult ((r14.1.1.1, (((r14.1.1.2.1, (r14.1.1.2.2.1, (r14.1.1.2.2.2.1, (r14.1.1.2.2.2.2.1, (r14.1.1.2.2.2.2.2.1, (r14.1.1.2.2.2.2.2.2.1, (r14.1.1.2.2.2.2.2.2.2.1, (r14.1.1.2.2.2.2.2.2.2.2.1, (r14.1.1.2.2.2.2.2.2.2.2.2.1, ()))))))))), (r14.1.1.2.2.2.2.2.2.2.2.2.2.1, (r14.1.1.2.2.2.2.2.2.2.2.2.2.2.1, ()))), ())), (r3.1.1.1, (((r3.1.1.2.1, (r3.1.1.2.2.1, (r3.1.1.2.2.2.1, (r3.1.1.2.2.2.2.1, (r3.1.1.2.2.2.2.2.1, (r3.1.1.2.2.2.2.2.2.1, (r3.1.1.2.2.2.2.2.2.2.1, (r3.1.1.2.2.2.2.2.2.2.2.1, (r3.1.1.2.2.2.2.2.2.2.2.2.1, ()))))))))), (r3.1.1.2.2.2.2.2.2.2.2.2.2.1, (r3.1.1.2.2.2.2.2.2.2.2.2.2.2.1, ()))), ())), ())).bind fun r15 =>
                    if (!r15.1.1) then
                      some ((false, ()), ())
                    else
                      (F_laws_heldSoloResult ((r5.1.1.1, (((r11.2.1.1, (r5.1.1.2.2.1, (r11.2.1.2.1, (r5.1.1.2.2.2.2.1, (r5.1.1.2.2.2.2.2.1, (r5.1.1.2.2.2.2.2.2.1, (r5.1.1.2.2.2.2.2.2.2.1, (r11.2.1.2.2.1, (r11.2.1.2.2.2.1, ()))))))))), (r11.2.1.2.2.2.2.1, (r11.2.1.2.2.2.2.2.1, ()))), ())), (1 : Int), ())).bind fun r16 =>
                      if (ltI r16.1.1 (0 : Int)) then
                        some ((false, ()), ())
                      else
                        if (r16.1.1 != r11.1.1) then
                          some ((false, ()), ())
                        else
                          some ((true, ()), ())
              else none
          else
            some ((false, ()), ())
        else none
abbrev C_laws_FnExactRunSolo : Con := ⟨P_laws_FnExactRunSolo, R_laws_FnExactRunSolo, F_laws_FnExactRunSolo, false⟩
abbrev G_laws_FnExactRunSolo : Env := [(28, C_laws_szSolo), (29, C_spec_RunSolo), (30, C_laws_toSolo), (31, C_impl_RunSolo), (32, C_laws_eqSoloResult), (33, C_laws_eqSolo), (34, C_laws_markSolo), (35, C_laws_markSoloResult), (36, C_laws_heldSoloResult)]
theorem g_laws_FnExactRunSolo : EnvOk Tryz.prog G_laws_FnExactRunSolo := (env_cons s_laws_szSolo (env_cons s_spec_RunSolo (env_cons s_laws_toSolo (env_cons s_impl_RunSolo (env_cons s_laws_eqSoloResult (env_cons s_laws_eqSolo (env_cons s_laws_markSolo (env_cons s_laws_markSoloResult (env_cons s_laws_heldSoloResult env_nil)))))))))
theorem r_laws_FnExactRunSolo (x) : runFn T G_laws_FnExactRunSolo [] Tryz.f5 P_laws_FnExactRunSolo R_laws_FnExactRunSolo x = F_laws_FnExactRunSolo x := by kernel_rfl
theorem s_laws_FnExactRunSolo : CallsOk Tryz.prog 5 C_laws_FnExactRunSolo :=
  fn_calls (L := []) hT g_laws_FnExactRunSolo Tryz.f5 (by kernel_rfl) (by kernel_rfl) (by kernel_rfl) (plain_ok (by kernel_rfl)) r_laws_FnExactRunSolo
theorem q_laws_FnExactRunSolo : Sound Tryz.prog 5 C_laws_FnExactRunSolo :=
  fn_snd (L := []) hT g_laws_FnExactRunSolo Tryz.f5 (by kernel_rfl) (by kernel_rfl) (plain_ok (by kernel_rfl)) r_laws_FnExactRunSolo
end Go.Proofs.YtkbcjonmodmfcaaGreatDoor
