/- The functions of the laws, each as a plain function of data (F), and that the program's text does what F says. Printed by a program (wip/tools/gen.py). -/
import Derived.Test.YteddlkdbefloaaaGa
namespace Go.Proofs.Yteddlkdbefloaaa
open Go Go.RowKit S Go.Proofs
set_option maxRecDepth 100000
set_option linter.unusedVariables false
/-! laws.szInt64S -/
abbrev P_laws_szInt64S : List PK := [.val Y22, .val YI]
abbrev R_laws_szInt64S : List VK := [.s (.dat YI)]
def F_laws_szInt64S (x : denP P_laws_szInt64S) : Option (denV R_laws_szInt64S × denQ P_laws_szInt64S) :=
  let v1 := ((x.1.length : Nat) : Int)
  let v2 := (IntKind.i64.wrap (x.2.1 - v1))
  if (ltI v2 (0 : Int)) then
    some (((-1 : Int), ()), ())
  else
    some ((v2, ()), ())
abbrev C_laws_szInt64S : Con := ⟨P_laws_szInt64S, R_laws_szInt64S, F_laws_szInt64S, false⟩
abbrev G_laws_szInt64S : Env := []
theorem g_laws_szInt64S : EnvOk Try.prog G_laws_szInt64S := env_nil
theorem r_laws_szInt64S (x) : runFn T G_laws_szInt64S [] Try.f68 P_laws_szInt64S R_laws_szInt64S x = F_laws_szInt64S x := by kernel_rfl
theorem s_laws_szInt64S : CallsOk Try.prog 68 C_laws_szInt64S :=
  fn_calls (L := []) hT g_laws_szInt64S Try.f68 (by kernel_rfl) (by kernel_rfl) (by kernel_rfl) (plain_ok (by kernel_rfl)) r_laws_szInt64S
/-! laws.szHart -/
abbrev P_laws_szHart : List PK := [.val Y37, .val YI]
abbrev R_laws_szHart : List VK := [.s (.dat YI)]
def F_laws_szHart (x : denP P_laws_szHart) : Option (denV R_laws_szHart × denQ P_laws_szHart) :=
  (F_laws_szInt64S (x.1.1, x.2.1, ())).bind fun r1 =>
  if (ltI r1.1.1 (0 : Int)) then
    some (((-1 : Int), ()), ())
  else
    (F_laws_szInt64S (x.1.2.2.1, r1.1.1, ())).bind fun r2 =>
    if (ltI r2.1.1 (0 : Int)) then
      some (((-1 : Int), ()), ())
    else
      (F_laws_szInt64S (x.1.2.2.2.2.2.2.2.1, r2.1.1, ())).bind fun r3 =>
      if (ltI r3.1.1 (0 : Int)) then
        some (((-1 : Int), ()), ())
      else
        (F_laws_szInt64S (x.1.2.2.2.2.2.2.2.2.1, r3.1.1, ())).bind fun r4 =>
        if (ltI r4.1.1 (0 : Int)) then
          some (((-1 : Int), ()), ())
        else
          some ((r4.1.1, ()), ())
abbrev C_laws_szHart : Con := ⟨P_laws_szHart, R_laws_szHart, F_laws_szHart, false⟩
abbrev G_laws_szHart : Env := [(68, C_laws_szInt64S)]
theorem g_laws_szHart : EnvOk Try.prog G_laws_szHart := (env_cons s_laws_szInt64S env_nil)
theorem r_laws_szHart (x) : runFn T G_laws_szHart [] Try.f67 P_laws_szHart R_laws_szHart x = F_laws_szHart x := by kernel_rfl
theorem s_laws_szHart : CallsOk Try.prog 67 C_laws_szHart :=
  fn_calls (L := []) hT g_laws_szHart Try.f67 (by kernel_rfl) (by kernel_rfl) (by kernel_rfl) (plain_ok (by kernel_rfl)) r_laws_szHart
/-! laws.szView -/
abbrev P_laws_szView : List PK := [.val Y39, .val YI]
abbrev R_laws_szView : List VK := [.s (.dat YI)]
def F_laws_szView (x : denP P_laws_szView) : Option (denV R_laws_szView × denQ P_laws_szView) :=
  (F_laws_szHart (x.1.1, x.2.1, ())).bind fun r1 =>
  if (ltI r1.1.1 (0 : Int)) then
    some (((-1 : Int), ()), ())
  else
    (F_laws_szInt64S (x.1.2.1, r1.1.1, ())).bind fun r2 =>
    if (ltI r2.1.1 (0 : Int)) then
      some (((-1 : Int), ()), ())
    else
      (F_laws_szInt64S (x.1.2.2.1, r2.1.1, ())).bind fun r3 =>
      if (ltI r3.1.1 (0 : Int)) then
        some (((-1 : Int), ()), ())
      else
        some ((r3.1.1, ()), ())
abbrev C_laws_szView : Con := ⟨P_laws_szView, R_laws_szView, F_laws_szView, false⟩
abbrev G_laws_szView : Env := [(67, C_laws_szHart), (68, C_laws_szInt64S)]
theorem g_laws_szView : EnvOk Try.prog G_laws_szView := (env_cons s_laws_szHart (env_cons s_laws_szInt64S env_nil))
theorem r_laws_szView (x) : runFn T G_laws_szView [] Try.f25 P_laws_szView R_laws_szView x = F_laws_szView x := by kernel_rfl
theorem s_laws_szView : CallsOk Try.prog 25 C_laws_szView :=
  fn_calls (L := []) hT g_laws_szView Try.f25 (by kernel_rfl) (by kernel_rfl) (by kernel_rfl) (plain_ok (by kernel_rfl)) r_laws_szView
/-! laws.toHart -/
abbrev P_laws_toHart : List PK := [.val Y37]
abbrev R_laws_toHart : List VK := [.g [.own 2 YI, .dat YI, .own 2 YI, .dat .bool, .dat .bool, .dat .bool, .dat YI, .own 2 YI, .own 2 YI]]
def F_laws_toHart (x : denP P_laws_toHart) : Option (denV R_laws_toHart × denQ P_laws_toHart) :=
  (F_laws_toInt64S (x.1.1, ())).bind fun r1 =>
  (F_laws_toInt64S (x.1.2.2.1, ())).bind fun r2 =>
  (F_laws_toInt64S (x.1.2.2.2.2.2.2.2.1, ())).bind fun r3 =>
  (F_laws_toInt64S (x.1.2.2.2.2.2.2.2.2.1, ())).bind fun r4 =>
  some (((r1.1.1, (x.1.2.1, (r2.1.1, (x.1.2.2.2.1, (x.1.2.2.2.2.1, (x.1.2.2.2.2.2.1, (x.1.2.2.2.2.2.2.1, (r3.1.1, (r4.1.1, ()))))))))), ()), ())
abbrev C_laws_toHart : Con := ⟨P_laws_toHart, R_laws_toHart, F_laws_toHart, false⟩
abbrev G_laws_toHart : Env := [(15, C_laws_toInt64S)]
theorem g_laws_toHart : EnvOk Try.prog G_laws_toHart := (env_cons s_laws_toInt64S env_nil)
theorem r_laws_toHart (x) : runFn T G_laws_toHart [] Try.f71 P_laws_toHart R_laws_toHart x = F_laws_toHart x := by kernel_rfl
theorem s_laws_toHart : CallsOk Try.prog 71 C_laws_toHart :=
  fn_calls (L := []) hT g_laws_toHart Try.f71 (by kernel_rfl) (by kernel_rfl) (by kernel_rfl) (plain_ok (by kernel_rfl)) r_laws_toHart
/-! laws.toView -/
abbrev P_laws_toView : List PK := [.val Y39]
abbrev R_laws_toView : List VK := [.g [.own 2 YI, .dat YI, .own 2 YI, .dat .bool, .dat .bool, .dat .bool, .dat YI, .own 2 YI, .own 2 YI, .own 2 YI, .own 2 YI]]
def F_laws_toView (x : denP P_laws_toView) : Option (denV R_laws_toView × denQ P_laws_toView) :=
  (F_laws_toHart (x.1.1, ())).bind fun r1 =>
  (F_laws_toInt64S (x.1.2.1, ())).bind fun r2 =>
  (F_laws_toInt64S (x.1.2.2.1, ())).bind fun r3 =>
  some (((r1.1.1.1, (r1.1.1.2.1, (r1.1.1.2.2.1, (r1.1.1.2.2.2.1, (r1.1.1.2.2.2.2.1, (r1.1.1.2.2.2.2.2.1, (r1.1.1.2.2.2.2.2.2.1, (r1.1.1.2.2.2.2.2.2.2.1, (r1.1.1.2.2.2.2.2.2.2.2.1, (r2.1.1, (r3.1.1, ()))))))))))), ()), ())
abbrev C_laws_toView : Con := ⟨P_laws_toView, R_laws_toView, F_laws_toView, false⟩
abbrev G_laws_toView : Env := [(15, C_laws_toInt64S), (71, C_laws_toHart)]
theorem g_laws_toView : EnvOk Try.prog G_laws_toView := (env_cons s_laws_toInt64S (env_cons s_laws_toHart env_nil))
theorem r_laws_toView (x) : runFn T G_laws_toView [] Try.f27 P_laws_toView R_laws_toView x = F_laws_toView x := by kernel_rfl
theorem s_laws_toView : CallsOk Try.prog 27 C_laws_toView :=
  fn_calls (L := []) hT g_laws_toView Try.f27 (by kernel_rfl) (by kernel_rfl) (by kernel_rfl) (plain_ok (by kernel_rfl)) r_laws_toView
/-! spec.l13Same -/
abbrev P_spec_l13Same : List PK := [.val Y22, .val Y22]
abbrev R_spec_l13Same : List VK := [.s (.dat .bool)]
abbrev i_spec_l13Same_4 : Shp := { slots := [(0, .s (.dat Y22)), (1, .s (.dat Y22)), (5, .s (.dat YI))], boxes := [], rows := [] }
abbrev o_spec_l13Same_4 : List (Ex × Shp) := [(.exit 0, { slots := [], boxes := [], rows := [] }), (.ret, { slots := [(4, .s (.dat .bool))], boxes := [], rows := [] })]
def l_spec_l13Same_4 (rec : i_spec_l13Same_4.den → Option (denO o_spec_l13Same_4)) (u4 : i_spec_l13Same_4.den) : Option (denO o_spec_l13Same_4) :=
  let v5 := ((u4.1.1.length : Nat) : Int)
  if (ltI u4.1.2.2.1 v5) then
    if 0 ≤ u4.1.2.2.1 then
      ((u4.1.1)[(u4.1.2.2.1).toNat]?).bind fun y6 =>
      if 0 ≤ u4.1.2.2.1 then
        ((u4.1.2.1)[(u4.1.2.2.1).toNat]?).bind fun y7 =>
        if (y6 != y7) then
          some (.inr (.inl ((false, ()), ((), ()))))
        else
          let v8 := (IntKind.i64.wrap (u4.1.2.2.1 + (1 : Int)))
          rec ((u4.1.1, (u4.1.2.1, (v8, ()))), ((), ()))
      else none
    else none
  else
    some (.inl ((), ((), ())))
def L_spec_l13Same_4 (x : i_spec_l13Same_4.den) : Option (denO o_spec_l13Same_4) := iterF l_spec_l13Same_4 lots x
def F_spec_l13Same (x : denP P_spec_l13Same) : Option (denV R_spec_l13Same × denQ P_spec_l13Same) :=
  let v1 := ((x.1.length : Nat) : Int)
  let v2 := ((x.2.1.length : Nat) : Int)
  if (v1 != v2) then
    some ((false, ()), ())
  else
    (L_spec_l13Same_4 ((x.1, (x.2.1, ((0 : Int), ()))), ((), ()))).bind fun z9 =>
    match z9 with
    | .inl x10 =>
      some ((true, ()), ())
    | .inr z9_ =>
      match z9_ with
      | .inl x11 =>
        some ((x11.1.1, ()), ())
      | .inr z9__ =>
        none
abbrev C_spec_l13Same : Con := ⟨P_spec_l13Same, R_spec_l13Same, F_spec_l13Same, false⟩
abbrev G_spec_l13Same : Env := []
theorem g_spec_l13Same : EnvOk Try.prog G_spec_l13Same := env_nil
abbrev c_spec_l13Same_4 : Cut := ⟨i_spec_l13Same_4, o_spec_l13Same_4, fun x => iterF l_spec_l13Same_4 lots x⟩
theorem t_spec_l13Same_4 (rec x) : run T G_spec_l13Same [] (nav Try.f70 [1, 1, 0, 1, 0, 0]) (mk 26 i_spec_l13Same_4 x) (loopK i_spec_l13Same_4 o_spec_l13Same_4 rec) = l_spec_l13Same_4 rec x := by kernel_rfl
theorem k_spec_l13Same_4 : CutOk Try.prog 26 (.loop (nav Try.f70 [1, 1, 0, 1, 0, 0])) c_spec_l13Same_4 :=
  loop_cut (L := []) hT g_spec_l13Same t_spec_l13Same_4 (plain_ok (by kernel_rfl)) _
theorem r_spec_l13Same (x) : runFn T G_spec_l13Same [(4, c_spec_l13Same_4)] Try.f70 P_spec_l13Same R_spec_l13Same x = F_spec_l13Same x := by kernel_rfl
theorem s_spec_l13Same : CallsOk Try.prog 70 C_spec_l13Same :=
  fn_calls (L := [(4, c_spec_l13Same_4)]) hT g_spec_l13Same Try.f70 (by kernel_rfl) (by kernel_rfl) (by kernel_rfl) (seq_ok (plain_ok (by kernel_rfl)) (seq_ok (plain_ok (by kernel_rfl)) (seq_ok (seq_ok (plain_ok (by kernel_rfl)) (block_ok (by kernel_rfl) (loop_ok (by kernel_rfl) k_spec_l13Same_4))) (plain_ok (by kernel_rfl))))) r_spec_l13Same
/-! spec.l13Harts -/
abbrev P_spec_l13Harts : List PK := [.ptr Y37, .ptr Y37]
abbrev R_spec_l13Harts : List VK := [.s (.dat .bool)]
def F_spec_l13Harts (x : denP P_spec_l13Harts) : Option (denV R_spec_l13Harts × denQ P_spec_l13Harts) :=
  (F_spec_l13Same (x.1.1, x.2.1.1, ())).bind fun r1 =>
  if r1.1.1 = true then
    if (x.1.2.1 == x.2.1.2.1) = true then
      (F_spec_l13Same (x.1.2.2.1, x.2.1.2.2.1, ())).bind fun r2 =>
      if r2.1.1 = true then
        if (x.1.2.2.2.1 == x.2.1.2.2.2.1) = true then
          if (x.1.2.2.2.2.1 == x.2.1.2.2.2.2.1) = true then
            if (x.1.2.2.2.2.2.1 == x.2.1.2.2.2.2.2.1) = true then
              if (x.1.2.2.2.2.2.2.1 == x.2.1.2.2.2.2.2.2.1) = true then
                (F_spec_l13Same (x.1.2.2.2.2.2.2.2.1, x.2.1.2.2.2.2.2.2.2.1, ())).bind fun r3 =>
                if r3.1.1 = true then
                  (F_spec_l13Same (x.1.2.2.2.2.2.2.2.2.1, x.2.1.2.2.2.2.2.2.2.2.1, ())).bind fun r4 =>
                  some ((r4.1.1, ()), ())
                else
                  some ((false, ()), ())
              else
                some ((false, ()), ())
            else
              some ((false, ()), ())
          else
            some ((false, ()), ())
        else
          some ((false, ()), ())
      else
        some ((false, ()), ())
    else
      some ((false, ()), ())
  else
    some ((false, ()), ())
abbrev C_spec_l13Harts : Con := ⟨P_spec_l13Harts, R_spec_l13Harts, F_spec_l13Harts, false⟩
abbrev G_spec_l13Harts : Env := [(70, C_spec_l13Same)]
theorem g_spec_l13Harts : EnvOk Try.prog G_spec_l13Harts := (env_cons s_spec_l13Same env_nil)
theorem r_spec_l13Harts (x) : runFn T G_spec_l13Harts [] Try.f69 P_spec_l13Harts R_spec_l13Harts x = F_spec_l13Harts x := by kernel_rfl
theorem s_spec_l13Harts : CallsOk Try.prog 69 C_spec_l13Harts :=
  fn_calls (L := []) hT g_spec_l13Harts Try.f69 (by kernel_rfl) (by kernel_rfl) (by kernel_rfl) (plain_ok (by kernel_rfl)) r_spec_l13Harts
/-! spec.SameViews -/
abbrev P_spec_SameViews : List PK := [.val Y39, .val Y39]
abbrev R_spec_SameViews : List VK := [.s (.dat .bool)]
def F_spec_SameViews (x : denP P_spec_SameViews) : Option (denV R_spec_SameViews × denQ P_spec_SameViews) :=
  (F_spec_l13Harts (x.1.1, x.2.1.1, ())).bind fun r1 =>
  if r1.1.1 = true then
    (F_spec_l13Same (x.1.2.1, x.2.1.2.1, ())).bind fun r2 =>
    if r2.1.1 = true then
      (F_spec_l13Same (x.1.2.2.1, x.2.1.2.2.1, ())).bind fun r3 =>
      some ((r3.1.1, ()), ())
    else
      some ((false, ()), ())
  else
    some ((false, ()), ())
abbrev C_spec_SameViews : Con := ⟨P_spec_SameViews, R_spec_SameViews, F_spec_SameViews, false⟩
abbrev G_spec_SameViews : Env := [(69, C_spec_l13Harts), (70, C_spec_l13Same)]
theorem g_spec_SameViews : EnvOk Try.prog G_spec_SameViews := (env_cons s_spec_l13Harts (env_cons s_spec_l13Same env_nil))
theorem r_spec_SameViews (x) : runFn T G_spec_SameViews [] Try.f26 P_spec_SameViews R_spec_SameViews x = F_spec_SameViews x := by kernel_rfl
theorem s_spec_SameViews : CallsOk Try.prog 26 C_spec_SameViews :=
  fn_calls (L := []) hT g_spec_SameViews Try.f26 (by kernel_rfl) (by kernel_rfl) (by kernel_rfl) (plain_ok (by kernel_rfl)) r_spec_SameViews
/-! slices.Equal[int64,int64] -/
abbrev P_slices_Equal_int64 : List PK := [.val Y22, .val Y22]
abbrev R_slices_Equal_int64 : List VK := [.s (.dat .bool)]
abbrev i_slices_Equal_int64_4 : Shp := { slots := [(0, .s (.dat Y22)), (1, .s (.dat Y22)), (12, .s (.dat YI)), (13, .s (.dat YI))], boxes := [], rows := [] }
abbrev o_slices_Equal_int64_4 : List (Ex × Shp) := [(.exit 0, { slots := [], boxes := [], rows := [] }), (.ret, { slots := [(4, .s (.dat .bool))], boxes := [], rows := [] })]
def l_slices_Equal_int64_4 (rec : i_slices_Equal_int64_4.den → Option (denO o_slices_Equal_int64_4)) (u4 : i_slices_Equal_int64_4.den) : Option (denO o_slices_Equal_int64_4) :=
  if (ltI u4.1.2.2.2.1 u4.1.2.2.1) then
    if 0 ≤ u4.1.2.2.2.1 then
      ((u4.1.1)[(u4.1.2.2.2.1).toNat]?).bind fun y6 =>
      if 0 ≤ u4.1.2.2.2.1 then
        ((u4.1.2.1)[(u4.1.2.2.2.1).toNat]?).bind fun y7 =>
        if (y6 != y7) then
          some (.inr (.inl ((false, ()), ((), ()))))
        else
          let v8 := (IntKind.i64.wrap (u4.1.2.2.2.1 + (1 : Int)))
          rec ((u4.1.1, (u4.1.2.1, (u4.1.2.2.1, (v8, ())))), ((), ()))
      else none
    else none
  else
    some (.inl ((), ((), ())))
def L_slices_Equal_int64_4 (x : i_slices_Equal_int64_4.den) : Option (denO o_slices_Equal_int64_4) := iterF l_slices_Equal_int64_4 lots x
def F_slices_Equal_int64 (x : denP P_slices_Equal_int64) : Option (denV R_slices_Equal_int64 × denQ P_slices_Equal_int64) :=
  let v1 := ((x.1.length : Nat) : Int)
  let v2 := ((x.2.1.length : Nat) : Int)
  if (v1 != v2) then
    some ((false, ()), ())
  else
    let v3 := ((x.1.length : Nat) : Int)
    (L_slices_Equal_int64_4 ((x.1, (x.2.1, (v3, ((0 : Int), ())))), ((), ()))).bind fun z9 =>
    match z9 with
    | .inl x10 =>
      some ((true, ()), ())
    | .inr z9_ =>
      match z9_ with
      | .inl x11 =>
        some ((x11.1.1, ()), ())
      | .inr z9__ =>
        none
abbrev C_slices_Equal_int64 : Con := ⟨P_slices_Equal_int64, R_slices_Equal_int64, F_slices_Equal_int64, false⟩
abbrev G_slices_Equal_int64 : Env := []
theorem g_slices_Equal_int64 : EnvOk Try.prog G_slices_Equal_int64 := env_nil
abbrev c_slices_Equal_int64_4 : Cut := ⟨i_slices_Equal_int64_4, o_slices_Equal_int64_4, fun x => iterF l_slices_Equal_int64_4 lots x⟩
theorem t_slices_Equal_int64_4 (rec x) : run T G_slices_Equal_int64 [] (nav Try.f73 [1, 1, 0, 1, 0, 0]) (mk 26 i_slices_Equal_int64_4 x) (loopK i_slices_Equal_int64_4 o_slices_Equal_int64_4 rec) = l_slices_Equal_int64_4 rec x := by kernel_rfl
theorem k_slices_Equal_int64_4 : CutOk Try.prog 26 (.loop (nav Try.f73 [1, 1, 0, 1, 0, 0])) c_slices_Equal_int64_4 :=
  loop_cut (L := []) hT g_slices_Equal_int64 t_slices_Equal_int64_4 (plain_ok (by kernel_rfl)) _
theorem r_slices_Equal_int64 (x) : runFn T G_slices_Equal_int64 [(4, c_slices_Equal_int64_4)] Try.f73 P_slices_Equal_int64 R_slices_Equal_int64 x = F_slices_Equal_int64 x := by kernel_rfl
theorem s_slices_Equal_int64 : CallsOk Try.prog 73 C_slices_Equal_int64 :=
  fn_calls (L := [(4, c_slices_Equal_int64_4)]) hT g_slices_Equal_int64 Try.f73 (by kernel_rfl) (by kernel_rfl) (by kernel_rfl) (seq_ok (plain_ok (by kernel_rfl)) (seq_ok (plain_ok (by kernel_rfl)) (seq_ok (seq_ok (plain_ok (by kernel_rfl)) (block_ok (by kernel_rfl) (loop_ok (by kernel_rfl) k_slices_Equal_int64_4))) (plain_ok (by kernel_rfl))))) r_slices_Equal_int64
/-! impl.sameHarts -/
abbrev P_impl_sameHarts : List PK := [.val Y37, .val Y37]
abbrev R_impl_sameHarts : List VK := [.s (.dat .bool)]
def F_impl_sameHarts (x : denP P_impl_sameHarts) : Option (denV R_impl_sameHarts × denQ P_impl_sameHarts) :=
  (F_slices_Equal_int64 (x.1.1, x.2.1.1, ())).bind fun r1 =>
  if r1.1.1 = true then
    if (x.1.2.1 == x.2.1.2.1) = true then
      (F_slices_Equal_int64 (x.1.2.2.1, x.2.1.2.2.1, ())).bind fun r2 =>
      if r2.1.1 = true then
        if (x.1.2.2.2.1 == x.2.1.2.2.2.1) = true then
          if (x.1.2.2.2.2.1 == x.2.1.2.2.2.2.1) = true then
            if (x.1.2.2.2.2.2.1 == x.2.1.2.2.2.2.2.1) = true then
              if (x.1.2.2.2.2.2.2.1 == x.2.1.2.2.2.2.2.2.1) = true then
                (F_slices_Equal_int64 (x.1.2.2.2.2.2.2.2.1, x.2.1.2.2.2.2.2.2.2.1, ())).bind fun r3 =>
                if r3.1.1 = true then
                  (F_slices_Equal_int64 (x.1.2.2.2.2.2.2.2.2.1, x.2.1.2.2.2.2.2.2.2.2.1, ())).bind fun r4 =>
                  some ((r4.1.1, ()), ())
                else
                  some ((false, ()), ())
              else
                some ((false, ()), ())
            else
              some ((false, ()), ())
          else
            some ((false, ()), ())
        else
          some ((false, ()), ())
      else
        some ((false, ()), ())
    else
      some ((false, ()), ())
  else
    some ((false, ()), ())
abbrev C_impl_sameHarts : Con := ⟨P_impl_sameHarts, R_impl_sameHarts, F_impl_sameHarts, false⟩
abbrev G_impl_sameHarts : Env := [(73, C_slices_Equal_int64)]
theorem g_impl_sameHarts : EnvOk Try.prog G_impl_sameHarts := (env_cons s_slices_Equal_int64 env_nil)
theorem r_impl_sameHarts (x) : runFn T G_impl_sameHarts [] Try.f72 P_impl_sameHarts R_impl_sameHarts x = F_impl_sameHarts x := by kernel_rfl
theorem s_impl_sameHarts : CallsOk Try.prog 72 C_impl_sameHarts :=
  fn_calls (L := []) hT g_impl_sameHarts Try.f72 (by kernel_rfl) (by kernel_rfl) (by kernel_rfl) (plain_ok (by kernel_rfl)) r_impl_sameHarts
/-! impl.SameViews -/
abbrev P_impl_SameViews : List PK := [.val Y39, .val Y39]
abbrev R_impl_SameViews : List VK := [.s (.dat .bool)]
def F_impl_SameViews (x : denP P_impl_SameViews) : Option (denV R_impl_SameViews × denQ P_impl_SameViews) :=
  (F_impl_sameHarts (x.1.1, x.2.1.1, ())).bind fun r1 =>
  if r1.1.1 = true then
    (F_slices_Equal_int64 (x.1.2.1, x.2.1.2.1, ())).bind fun r2 =>
    if r2.1.1 = true then
      (F_slices_Equal_int64 (x.1.2.2.1, x.2.1.2.2.1, ())).bind fun r3 =>
      some ((r3.1.1, ()), ())
    else
      some ((false, ()), ())
  else
    some ((false, ()), ())
abbrev C_impl_SameViews : Con := ⟨P_impl_SameViews, R_impl_SameViews, F_impl_SameViews, false⟩
abbrev G_impl_SameViews : Env := [(72, C_impl_sameHarts), (73, C_slices_Equal_int64)]
theorem g_impl_SameViews : EnvOk Try.prog G_impl_SameViews := (env_cons s_impl_sameHarts (env_cons s_slices_Equal_int64 env_nil))
theorem r_impl_SameViews (x) : runFn T G_impl_SameViews [] Try.f28 P_impl_SameViews R_impl_SameViews x = F_impl_SameViews x := by kernel_rfl
theorem s_impl_SameViews : CallsOk Try.prog 28 C_impl_SameViews :=
  fn_calls (L := []) hT g_impl_SameViews Try.f28 (by kernel_rfl) (by kernel_rfl) (by kernel_rfl) (plain_ok (by kernel_rfl)) r_impl_SameViews
/-! laws.eqHart -/
abbrev P_laws_eqHart : List PK := [.val Y37, .val Y37]
abbrev R_laws_eqHart : List VK := [.s (.dat .bool)]
def F_laws_eqHart (x : denP P_laws_eqHart) : Option (denV R_laws_eqHart × denQ P_laws_eqHart) :=
  (F_laws_eqInt64S (x.1.1, x.2.1.1, ())).bind fun r1 =>
  if (!r1.1.1) then
    some ((false, ()), ())
  else
    if (x.1.2.1 != x.2.1.2.1) then
      some ((false, ()), ())
    else
      (F_laws_eqInt64S (x.1.2.2.1, x.2.1.2.2.1, ())).bind fun r2 =>
      if (!r2.1.1) then
        some ((false, ()), ())
      else
        if (!(x.1.2.2.2.1 == x.2.1.2.2.2.1)) then
          some ((false, ()), ())
        else
          if (!(x.1.2.2.2.2.1 == x.2.1.2.2.2.2.1)) then
            some ((false, ()), ())
          else
            if (!(x.1.2.2.2.2.2.1 == x.2.1.2.2.2.2.2.1)) then
              some ((false, ()), ())
            else
              if (x.1.2.2.2.2.2.2.1 != x.2.1.2.2.2.2.2.2.1) then
                some ((false, ()), ())
              else
                (F_laws_eqInt64S (x.1.2.2.2.2.2.2.2.1, x.2.1.2.2.2.2.2.2.2.1, ())).bind fun r3 =>
                if (!r3.1.1) then
                  some ((false, ()), ())
                else
                  (F_laws_eqInt64S (x.1.2.2.2.2.2.2.2.2.1, x.2.1.2.2.2.2.2.2.2.2.1, ())).bind fun r4 =>
                  if (!r4.1.1) then
                    some ((false, ()), ())
                  else
                    some ((true, ()), ())
abbrev C_laws_eqHart : Con := ⟨P_laws_eqHart, R_laws_eqHart, F_laws_eqHart, false⟩
abbrev G_laws_eqHart : Env := [(18, C_laws_eqInt64S)]
theorem g_laws_eqHart : EnvOk Try.prog G_laws_eqHart := (env_cons s_laws_eqInt64S env_nil)
theorem r_laws_eqHart (x) : runFn T G_laws_eqHart [] Try.f74 P_laws_eqHart R_laws_eqHart x = F_laws_eqHart x := by kernel_rfl
theorem s_laws_eqHart : CallsOk Try.prog 74 C_laws_eqHart :=
  fn_calls (L := []) hT g_laws_eqHart Try.f74 (by kernel_rfl) (by kernel_rfl) (by kernel_rfl) (plain_ok (by kernel_rfl)) r_laws_eqHart
/-! laws.eqView -/
abbrev P_laws_eqView : List PK := [.val Y39, .val Y39]
abbrev R_laws_eqView : List VK := [.s (.dat .bool)]
def F_laws_eqView (x : denP P_laws_eqView) : Option (denV R_laws_eqView × denQ P_laws_eqView) :=
  (F_laws_eqHart (x.1.1, x.2.1.1, ())).bind fun r1 =>
  if (!r1.1.1) then
    some ((false, ()), ())
  else
    (F_laws_eqInt64S (x.1.2.1, x.2.1.2.1, ())).bind fun r2 =>
    if (!r2.1.1) then
      some ((false, ()), ())
    else
      (F_laws_eqInt64S (x.1.2.2.1, x.2.1.2.2.1, ())).bind fun r3 =>
      if (!r3.1.1) then
        some ((false, ()), ())
      else
        some ((true, ()), ())
abbrev C_laws_eqView : Con := ⟨P_laws_eqView, R_laws_eqView, F_laws_eqView, false⟩
abbrev G_laws_eqView : Env := [(18, C_laws_eqInt64S), (74, C_laws_eqHart)]
theorem g_laws_eqView : EnvOk Try.prog G_laws_eqView := (env_cons s_laws_eqInt64S (env_cons s_laws_eqHart env_nil))
theorem r_laws_eqView (x) : runFn T G_laws_eqView [] Try.f29 P_laws_eqView R_laws_eqView x = F_laws_eqView x := by kernel_rfl
theorem s_laws_eqView : CallsOk Try.prog 29 C_laws_eqView :=
  fn_calls (L := []) hT g_laws_eqView Try.f29 (by kernel_rfl) (by kernel_rfl) (by kernel_rfl) (plain_ok (by kernel_rfl)) r_laws_eqView
/-! laws.FnExactSameViews -/
abbrev P_laws_FnExactSameViews : List PK := [.val Y39, .val Y39]
abbrev R_laws_FnExactSameViews : List VK := [.s (.dat .bool)]
def F_laws_FnExactSameViews (x : denP P_laws_FnExactSameViews) : Option (denV R_laws_FnExactSameViews × denQ P_laws_FnExactSameViews) :=
  (F_laws_szView (x.1, (1048576 : Int), ())).bind fun r1 =>
  if (ltI r1.1.1 (0 : Int)) then
    some ((true, ()), ())
  else
    (F_laws_szView (x.2.1, r1.1.1, ())).bind fun r2 =>
    if (ltI r2.1.1 (0 : Int)) then
      some ((true, ()), ())
    else
      (F_laws_toView (x.1, ())).bind fun r3 =>
      (F_laws_toView (x.2.1, ())).bind fun r4 =>
      (F_spec_SameViews (((r3.1.1.1, (r3.1.1.2.1, (r3.1.1.2.2.1, (r3.1.1.2.2.2.1, (r3.1.1.2.2.2.2.1, (r3.1.1.2.2.2.2.2.1, (r3.1.1.2.2.2.2.2.2.1, (r3.1.1.2.2.2.2.2.2.2.1, (r3.1.1.2.2.2.2.2.2.2.2.1, ()))))))))), (r3.1.1.2.2.2.2.2.2.2.2.2.1, (r3.1.1.2.2.2.2.2.2.2.2.2.2.1, ()))), ((r4.1.1.1, (r4.1.1.2.1, (r4.1.1.2.2.1, (r4.1.1.2.2.2.1, (r4.1.1.2.2.2.2.1, (r4.1.1.2.2.2.2.2.1, (r4.1.1.2.2.2.2.2.2.1, (r4.1.1.2.2.2.2.2.2.2.1, (r4.1.1.2.2.2.2.2.2.2.2.1, ()))))))))), (r4.1.1.2.2.2.2.2.2.2.2.2.1, (r4.1.1.2.2.2.2.2.2.2.2.2.2.1, ()))), ())).bind fun r5 =>
      (F_laws_toView (x.1, ())).bind fun r6 =>
      (F_laws_toView (x.2.1, ())).bind fun r7 =>
      (F_impl_SameViews (((r6.1.1.1, (r6.1.1.2.1, (r6.1.1.2.2.1, (r6.1.1.2.2.2.1, (r6.1.1.2.2.2.2.1, (r6.1.1.2.2.2.2.2.1, (r6.1.1.2.2.2.2.2.2.1, (r6.1.1.2.2.2.2.2.2.2.1, (r6.1.1.2.2.2.2.2.2.2.2.1, ()))))))))), (r6.1.1.2.2.2.2.2.2.2.2.2.1, (r6.1.1.2.2.2.2.2.2.2.2.2.2.1, ()))), ((r7.1.1.1, (r7.1.1.2.1, (r7.1.1.2.2.1, (r7.1.1.2.2.2.1, (r7.1.1.2.2.2.2.1, (r7.1.1.2.2.2.2.2.1, (r7.1.1.2.2.2.2.2.2.1, (r7.1.1.2.2.2.2.2.2.2.1, (r7.1.1.2.2.2.2.2.2.2.2.1, ()))))))))), (r7.1.1.2.2.2.2.2.2.2.2.2.1, (r7.1.1.2.2.2.2.2.2.2.2.2.2.1, ()))), ())).bind fun r8 =>
      if (!(r8.1.1 == r5.1.1)) then
        some ((false, ()), ())
      else
        (F_laws_toView (x.1, ())).bind fun r9 =>
        (F_laws_eqView (((r6.1.1.1, (r6.1.1.2.1, (r6.1.1.2.2.1, (r6.1.1.2.2.2.1, (r6.1.1.2.2.2.2.1, (r6.1.1.2.2.2.2.2.1, (r6.1.1.2.2.2.2.2.2.1, (r6.1.1.2.2.2.2.2.2.2.1, (r6.1.1.2.2.2.2.2.2.2.2.1, ()))))))))), (r6.1.1.2.2.2.2.2.2.2.2.2.1, (r6.1.1.2.2.2.2.2.2.2.2.2.2.1, ()))), ((r9.1.1.1, (r9.1.1.2.1, (r9.1.1.2.2.1, (r9.1.1.2.2.2.1, (r9.1.1.2.2.2.2.1, (r9.1.1.2.2.2.2.2.1, (r9.1.1.2.2.2.2.2.2.1, (r9.1.1.2.2.2.2.2.2.2.1, (r9.1.1.2.2.2.2.2.2.2.2.1, ()))))))))), (r9.1.1.2.2.2.2.2.2.2.2.2.1, (r9.1.1.2.2.2.2.2.2.2.2.2.2.1, ()))), ())).bind fun r10 =>
        if (!r10.1.1) then
          some ((false, ()), ())
        else
          (F_laws_toView (x.2.1, ())).bind fun r11 =>
          (F_laws_eqView (((r7.1.1.1, (r7.1.1.2.1, (r7.1.1.2.2.1, (r7.1.1.2.2.2.1, (r7.1.1.2.2.2.2.1, (r7.1.1.2.2.2.2.2.1, (r7.1.1.2.2.2.2.2.2.1, (r7.1.1.2.2.2.2.2.2.2.1, (r7.1.1.2.2.2.2.2.2.2.2.1, ()))))))))), (r7.1.1.2.2.2.2.2.2.2.2.2.1, (r7.1.1.2.2.2.2.2.2.2.2.2.2.1, ()))), ((r11.1.1.1, (r11.1.1.2.1, (r11.1.1.2.2.1, (r11.1.1.2.2.2.1, (r11.1.1.2.2.2.2.1, (r11.1.1.2.2.2.2.2.1, (r11.1.1.2.2.2.2.2.2.1, (r11.1.1.2.2.2.2.2.2.2.1, (r11.1.1.2.2.2.2.2.2.2.2.1, ()))))))))), (r11.1.1.2.2.2.2.2.2.2.2.2.1, (r11.1.1.2.2.2.2.2.2.2.2.2.2.1, ()))), ())).bind fun r12 =>
          if (!r12.1.1) then
            some ((false, ()), ())
          else
            some ((true, ()), ())
abbrev C_laws_FnExactSameViews : Con := ⟨P_laws_FnExactSameViews, R_laws_FnExactSameViews, F_laws_FnExactSameViews, false⟩
abbrev G_laws_FnExactSameViews : Env := [(25, C_laws_szView), (26, C_spec_SameViews), (27, C_laws_toView), (28, C_impl_SameViews), (29, C_laws_eqView)]
theorem g_laws_FnExactSameViews : EnvOk Try.prog G_laws_FnExactSameViews := (env_cons s_laws_szView (env_cons s_spec_SameViews (env_cons s_laws_toView (env_cons s_impl_SameViews (env_cons s_laws_eqView env_nil)))))
theorem r_laws_FnExactSameViews (x) : runFn T G_laws_FnExactSameViews [] Try.f5 P_laws_FnExactSameViews R_laws_FnExactSameViews x = F_laws_FnExactSameViews x := by kernel_rfl
theorem s_laws_FnExactSameViews : CallsOk Try.prog 5 C_laws_FnExactSameViews :=
  fn_calls (L := []) hT g_laws_FnExactSameViews Try.f5 (by kernel_rfl) (by kernel_rfl) (by kernel_rfl) (plain_ok (by kernel_rfl)) r_laws_FnExactSameViews
theorem q_laws_FnExactSameViews : Sound Try.prog 5 C_laws_FnExactSameViews :=
  fn_snd (L := []) hT g_laws_FnExactSameViews Try.f5 (by kernel_rfl) (by kernel_rfl) (plain_ok (by kernel_rfl)) r_laws_FnExactSameViews
end Go.Proofs.Yteddlkdbefloaaa
