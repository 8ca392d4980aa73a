/- The functions of the laws, each as a plain function of data (F), and that the program's text does what F says. Printed by a program (wip/tools/gen.py). -/
import Derived.Test.YteddlkdbefloaaaGc
namespace Go.Proofs.Yteddlkdbefloaaa
open Go Go.RowKit S Go.Proofs
set_option maxRecDepth 100000
set_option linter.unusedVariables false
/-! spec.l8Word -/
abbrev P_spec_l8Word : List PK := [.val (.int .i64)]
abbrev R_spec_l8Word : List VK := [.s (.dat .bool)]
def F_spec_l8Word (x : denP P_spec_l8Word) : Option (denV R_spec_l8Word × denQ P_spec_l8Word) :=
  (F_spec_l1In (x.1, (0 : Int), (4294967295 : Int), ())).bind fun r1 =>
  some ((r1.1.1, ()), ())
abbrev C_spec_l8Word : Con := ⟨P_spec_l8Word, R_spec_l8Word, F_spec_l8Word, false⟩
abbrev G_spec_l8Word : Env := [(60, C_spec_l1In)]
theorem g_spec_l8Word : EnvOk Try.prog G_spec_l8Word := (env_cons s_spec_l1In env_nil)
theorem r_spec_l8Word (x) : runFn T G_spec_l8Word [] Try.f125 P_spec_l8Word R_spec_l8Word x = F_spec_l8Word x := by kernel_rfl
theorem s_spec_l8Word : CallsOk Try.prog 125 C_spec_l8Word :=
  fn_calls (L := []) hT g_spec_l8Word Try.f125 (by kernel_rfl) (by kernel_rfl) (by kernel_rfl) (plain_ok (by kernel_rfl)) r_spec_l8Word
/-! spec.l8All -/
abbrev P_spec_l8All : List PK := [.val (.slice (.int .i64))]
abbrev R_spec_l8All : List VK := [.s (.dat .bool)]
abbrev i_spec_l8All_2 : Shp := { slots := [(0, .s (.dat (.slice (.int .i64)))), (3, .s (.dat (.int .i64)))], boxes := [], rows := [] }
abbrev o_spec_l8All_2 : List (Ex × Shp) := [(.exit 0, { slots := [], boxes := [], rows := [] }), (.ret, { slots := [(2, .s (.dat .bool))], boxes := [], rows := [] })]
def l_spec_l8All_2 (rec : i_spec_l8All_2.den → Option (denO o_spec_l8All_2)) (u2 : i_spec_l8All_2.den) : Option (denO o_spec_l8All_2) :=
  let v3 := ((u2.1.1.length : Nat) : Int)
  if (ltI u2.1.2.1 v3) then
    if 0 ≤ u2.1.2.1 then
      ((u2.1.1)[(u2.1.2.1).toNat]?).bind fun y4 =>
      (F_spec_l8Word (y4, ())).bind fun r5 =>
      if (!r5.1.1) then
        some (.inr (.inl ((false, ()), ((), ()))))
      else
        let v6 := (IntKind.i64.wrap (u2.1.2.1 + (1 : Int)))
        rec ((u2.1.1, (v6, ())), ((), ()))
    else none
  else
    some (.inl ((), ((), ())))
def L_spec_l8All_2 (x : i_spec_l8All_2.den) : Option (denO o_spec_l8All_2) := iterF l_spec_l8All_2 lots x
def F_spec_l8All (x : denP P_spec_l8All) : Option (denV R_spec_l8All × denQ P_spec_l8All) :=
  (L_spec_l8All_2 ((x.1, ((0 : Int), ())), ((), ()))).bind fun z7 =>
  match z7 with
  | .inl x8 =>
    some ((true, ()), ())
  | .inr z7_ =>
    match z7_ with
    | .inl x9 =>
      some ((x9.1.1, ()), ())
    | .inr z7__ =>
      none
abbrev C_spec_l8All : Con := ⟨P_spec_l8All, R_spec_l8All, F_spec_l8All, false⟩
abbrev G_spec_l8All : Env := [(125, C_spec_l8Word)]
theorem g_spec_l8All : EnvOk Try.prog G_spec_l8All := (env_cons s_spec_l8Word env_nil)
abbrev c_spec_l8All_2 : Cut := ⟨i_spec_l8All_2, o_spec_l8All_2, fun x => iterF l_spec_l8All_2 lots x⟩
theorem t_spec_l8All_2 (rec x) : run T G_spec_l8All [] (nav Try.f61 [1, 0, 1, 0, 0]) (mk 16 i_spec_l8All_2 x) (loopK i_spec_l8All_2 o_spec_l8All_2 rec) = l_spec_l8All_2 rec x := by kernel_rfl
theorem k_spec_l8All_2 : CutOk Try.prog 16 (.loop (nav Try.f61 [1, 0, 1, 0, 0])) c_spec_l8All_2 :=
  loop_cut (L := []) hT g_spec_l8All t_spec_l8All_2 (plain_ok (by kernel_rfl)) _
theorem r_spec_l8All (x) : runFn T G_spec_l8All [(2, c_spec_l8All_2)] Try.f61 P_spec_l8All R_spec_l8All x = F_spec_l8All x := by kernel_rfl
theorem s_spec_l8All : CallsOk Try.prog 61 C_spec_l8All :=
  fn_calls (L := [(2, c_spec_l8All_2)]) hT g_spec_l8All Try.f61 (by kernel_rfl) (by kernel_rfl) (by kernel_rfl) (seq_ok (plain_ok (by kernel_rfl)) (seq_ok (seq_ok (plain_ok (by kernel_rfl)) (block_ok (by kernel_rfl) (loop_ok (by kernel_rfl) k_spec_l8All_2))) (plain_ok (by kernel_rfl)))) r_spec_l8All
/-! spec.l3Copy -/
abbrev P_spec_l3Copy : List PK := [.val (.slice (.int .i64))]
abbrev R_spec_l3Copy : List VK := [.s (.own 2 (.int .i64))]
def F_spec_l3Copy (x : denP P_spec_l3Copy) : Option (denV R_spec_l3Copy × denQ P_spec_l3Copy) :=
  if (([] : List (den (.int .i64))).length + x.1.length) * 8 ≤ 140737488355328 then
    let v1 := (([] : List (den (.int .i64))) ++ x.1)
    some ((v1, ()), ())
  else none
abbrev C_spec_l3Copy : Con := ⟨P_spec_l3Copy, R_spec_l3Copy, F_spec_l3Copy, false⟩
abbrev G_spec_l3Copy : Env := []
theorem g_spec_l3Copy : EnvOk Try.prog G_spec_l3Copy := env_nil
theorem r_spec_l3Copy (x) : runFn T G_spec_l3Copy [] Try.f62 P_spec_l3Copy R_spec_l3Copy x = F_spec_l3Copy x := by kernel_rfl
theorem s_spec_l3Copy : CallsOk Try.prog 62 C_spec_l3Copy :=
  fn_calls (L := []) hT g_spec_l3Copy Try.f62 (by kernel_rfl) (by kernel_rfl) (by kernel_rfl) (plain_ok (by kernel_rfl)) r_spec_l3Copy
/-! spec.PatchImage -/
abbrev P_spec_PatchImage : List PK := [.val (.slice (.int .i64)), .val (.int .i64), .val (.slice (.int .i64))]
abbrev R_spec_PatchImage : List VK := [.g [.dat (.int .i64), .dat (.int .i64), .own 2 (.int .i64)]]
def F_spec_PatchImage (x : denP P_spec_PatchImage) : Option (denV R_spec_PatchImage × denQ P_spec_PatchImage) :=
  let v1 := ((x.1.length : Nat) : Int)
  (F_spec_l1In (x.2.1, (0 : Int), v1, ())).bind fun r2 =>
  if (!r2.1.1) then
    some ((((3 : Int), ((0 : Int), (([] : List (den (.int .i64))), ()))), ()), ())
  else
    let v3 := ((x.2.2.1.length : Nat) : Int)
    let v4 := (IntKind.i64.wrap (x.2.1 + v3))
    if (ltI (80 : Int) v4) = false then
      let v5 := ((x.1.length : Nat) : Int)
      if (ltI (80 : Int) v5) then
        some ((((2 : Int), ((0 : Int), (([] : List (den (.int .i64))), ()))), ()), ())
      else
        (F_spec_l8All (x.1, ())).bind fun r6 =>
        if (!r6.1.1) = false then
          (F_spec_l8All (x.2.2.1, ())).bind fun r7 =>
          if (!r7.1.1) then
            some ((((3 : Int), ((0 : Int), (([] : List (den (.int .i64))), ()))), ()), ())
          else
            if 0 ≤ (0 : Int) ∧ (0 : Int) ≤ x.2.1 ∧ x.2.1 ≤ ((x.1.length : Nat) : Int) then
              let v8 := ((x.1.drop ((0 : Int)).toNat).take ((x.2.1).toNat - ((0 : Int)).toNat))
              (F_spec_l3Copy (v8, ())).bind fun r9 =>
              if (r9.1.1.length + x.2.2.1.length) * 8 ≤ 140737488355328 then
                let v10 := (r9.1.1 ++ x.2.2.1)
                let v11 := ((x.2.2.1.length : Nat) : Int)
                let v12 := (IntKind.i64.wrap (x.2.1 + v11))
                let v13 := ((x.1.length : Nat) : Int)
                if (ltI v12 v13) then
                  if 0 ≤ v12 ∧ v12 ≤ ((x.1.length : Nat) : Int) ∧ ((x.1.length : Nat) : Int) ≤ ((x.1.length : Nat) : Int) then
                    let v14 := ((x.1.drop (v12).toNat).take ((((x.1.length : Nat) : Int)).toNat - (v12).toNat))
                    if (v10.length + v14.length) * 8 ≤ 140737488355328 then
                      let v15 := (v10 ++ v14)
                      some ((((0 : Int), ((0 : Int), (v15, ()))), ()), ())
                    else none
                  else none
                else
                  some ((((0 : Int), ((0 : Int), (v10, ()))), ()), ())
              else none
            else none
        else
          some ((((3 : Int), ((0 : Int), (([] : List (den (.int .i64))), ()))), ()), ())
    else
      some ((((2 : Int), ((0 : Int), (([] : List (den (.int .i64))), ()))), ()), ())
abbrev C_spec_PatchImage : Con := ⟨P_spec_PatchImage, R_spec_PatchImage, F_spec_PatchImage, false⟩
abbrev G_spec_PatchImage : Env := [(60, C_spec_l1In), (61, C_spec_l8All), (62, C_spec_l3Copy)]
theorem g_spec_PatchImage : EnvOk Try.prog G_spec_PatchImage := (env_cons s_spec_l1In (env_cons s_spec_l8All (env_cons s_spec_l3Copy env_nil)))
theorem r_spec_PatchImage (x) : runFn T G_spec_PatchImage [] Try.f19 P_spec_PatchImage R_spec_PatchImage x = F_spec_PatchImage x := by kernel_rfl
theorem s_spec_PatchImage : CallsOk Try.prog 19 C_spec_PatchImage :=
  fn_calls (L := []) hT g_spec_PatchImage Try.f19 (by kernel_rfl) (by kernel_rfl) (by kernel_rfl) (plain_ok (by kernel_rfl)) r_spec_PatchImage
/-! slices.Grow[int64,int64] -/
abbrev P_slices_Grow_int64 : List PK := [.val (.slice (.int .i64)), .val (.int .i64)]
abbrev R_slices_Grow_int64 : List VK := [.s (.own 2 (.int .i64))]
def F_slices_Grow_int64 : denP P_slices_Grow_int64 → Option (denV R_slices_Grow_int64 × denQ P_slices_Grow_int64) := growF (.int .i64) 8 2
abbrev C_slices_Grow_int64 : Con := ⟨P_slices_Grow_int64, R_slices_Grow_int64, F_slices_Grow_int64, true⟩
theorem w_slices_Grow_int64 (n : Nat) (w : World) (h0 : 0 < n) (hb : n * 8 ≤ 140737488355328) : Calls Try.prog 129 #[.slice none 0 0, .int .i64 n] w fun e w' =>
      e = .returned (.slice (some ⟨w.heap.size, 0, none⟩) 0 (grownCap w n 0 2)) ∧ ∃ c, w' = w.drew.alloc (.cells c 2) ∧ c.size = grownCap w n 0 2 * sz (.int .i64) := by
  have h1 : ¬ ((n : Int) < 0) := by omega
  have h2 : RowKit.wrap64 ((0 : Int) - 0) = 0 := by unfold RowKit.wrap64; omega
  have h3 : RowKit.wrap64 ((n : Int) - 0) = n := by unfold RowKit.wrap64; omega
  have h4 : (n : Int) > 0 := by omega
  obtain ⟨c, hc, hrz⟩ := grow_append hT (st := 22) (e := 2) (it := 3) (r := ⟨(.slice (.int .i64)), [], 2, 24⟩) (q := ⟨(.int .i64), [], 0, 8⟩) (r3 := ⟨(.int .i64), [], 0, 8⟩) (by kernel_rfl) rfl rfl (by kernel_rfl) (by kernel_rfl) rfl w h0 hb (by decide)
  generalize hG : grownCap w n 0 2 = G at hc hrz ⊢
  generalize hS : G * sz (.int .i64) = Sz at hc ⊢
  go_enter Try.func129, Try.ntmps129
  go_wp2_with (at_builtin; refine Lib.wpList_append_run _ rfl _ _ _ _ rfl _ _ rfl rfl _ _ (hrz _) ?_)
  go_ret
  exact ⟨rfl, c, rfl, hc⟩
theorem w_slices_Grow_int64_none (w : World) : Calls Try.prog 129 #[.slice none 0 0, .int .i64 0] w fun e w' => e = .returned (.slice none 0 0) ∧ w' = w := by
  go_enter Try.func129, Try.ntmps129
  go_wp2
  go_ret
  exact ⟨rfl, rfl⟩
theorem s_slices_Grow_int64 : CallsOk Try.prog 129 C_slices_Grow_int64 := (grow_sound (by decide) (fun n w h0 hb => w_slices_Grow_int64 n w h0 hb) w_slices_Grow_int64_none).ok (enter_ok Try.func129 (by decide +kernel) (by kernel_rfl))
/-! slices.Concat[int64,int64] -/
abbrev P_slices_Concat_int64 : List PK := [.val (.slice (.slice (.int .i64)))]
abbrev R_slices_Concat_int64 : List VK := [.s (.own 2 (.int .i64))]
abbrev i_slices_Concat_int64_11 : Shp := { slots := [(6, .s (.own 2 (.int .i64))), (25, .s (.dat (.slice (.slice (.int .i64))))), (26, .s (.dat (.int .i64))), (27, .s (.dat (.int .i64)))], boxes := [], rows := [] }
abbrev o_slices_Concat_int64_11 : List (Ex × Shp) := [(.exit 2, { slots := [(6, .s (.own 2 (.int .i64)))], boxes := [], rows := [] })]
def l_slices_Concat_int64_11 (rec : i_slices_Concat_int64_11.den → Option (denO o_slices_Concat_int64_11)) (u11 : i_slices_Concat_int64_11.den) : Option (denO o_slices_Concat_int64_11) :=
  if (ltI u11.1.2.2.2.1 u11.1.2.2.1) then
    if 0 ≤ u11.1.2.2.2.1 then
      ((u11.1.2.1)[(u11.1.2.2.2.1).toNat]?).bind fun y12 =>
      if (u11.1.1.length + y12.length) * 8 ≤ 140737488355328 then
        let v13 := (u11.1.1 ++ y12)
        let v14 := (IntKind.i64.wrap (u11.1.2.2.2.1 + (1 : Int)))
        rec ((v13, (u11.1.2.1, (u11.1.2.2.1, (v14, ())))), ((), ()))
      else none
    else none
  else
    some (.inl ((u11.1.1, ()), ((), ())))
def L_slices_Concat_int64_11 (x : i_slices_Concat_int64_11.den) : Option (denO o_slices_Concat_int64_11) := iterF l_slices_Concat_int64_11 lots x
abbrev i_slices_Concat_int64_3 : Shp := { slots := [(0, .s (.dat (.slice (.slice (.int .i64))))), (3, .s (.dat (.int .i64))), (9, .s (.dat (.slice (.slice (.int .i64))))), (10, .s (.dat (.int .i64))), (11, .s (.dat (.int .i64)))], boxes := [], rows := [] }
abbrev o_slices_Concat_int64_3 : List (Ex × Shp) := [(.exit 0, { slots := [(0, .s (.dat (.slice (.slice (.int .i64))))), (3, .s (.dat (.int .i64)))], boxes := [], rows := [] })]
def l_slices_Concat_int64_3 (rec : i_slices_Concat_int64_3.den → Option (denO o_slices_Concat_int64_3)) (u3 : i_slices_Concat_int64_3.den) : Option (denO o_slices_Concat_int64_3) :=
  if (ltI u3.1.2.2.2.2.1 u3.1.2.2.2.1) then
    if 0 ≤ u3.1.2.2.2.2.1 then
      ((u3.1.2.2.1)[(u3.1.2.2.2.2.1).toNat]?).bind fun y3 =>
      let v4 := ((y3.length : Nat) : Int)
      let v5 := (IntKind.i64.wrap (u3.1.2.1 + v4))
      if (ltI v5 (0 : Int)) then none else
      let v6 := (IntKind.i64.wrap (u3.1.2.2.2.2.1 + (1 : Int)))
      rec ((u3.1.1, (v5, (u3.1.2.2.1, (u3.1.2.2.2.1, (v6, ()))))), ((), ()))
    else none
  else
    some (.inl ((u3.1.1, (u3.1.2.1, ())), ((), ())))
def L_slices_Concat_int64_3 (x : i_slices_Concat_int64_3.den) : Option (denO o_slices_Concat_int64_3) := iterF l_slices_Concat_int64_3 lots x
def F_slices_Concat_int64 (x : denP P_slices_Concat_int64) : Option (denV R_slices_Concat_int64 × denQ P_slices_Concat_int64) :=
  let v1 := ((x.1.length : Nat) : Int)
  (L_slices_Concat_int64_3 ((x.1, ((0 : Int), (x.1, (v1, ((0 : Int), ()))))), ((), ()))).bind fun z7 =>
  match z7 with
  | .inl x8 =>
    (F_slices_Grow_int64 (([] : List (den (.int .i64))), x8.1.2.1, ())).bind fun r9 =>
    let v10 := ((x8.1.1.length : Nat) : Int)
    (L_slices_Concat_int64_11 ((r9.1.1, (x8.1.1, (v10, ((0 : Int), ())))), ((), ()))).bind fun z15 =>
    match z15 with
    | .inl x16 =>
      some ((x16.1.1, ()), ())
    | .inr z15_ =>
      none
  | .inr z7_ =>
    none
abbrev C_slices_Concat_int64 : Con := ⟨P_slices_Concat_int64, R_slices_Concat_int64, F_slices_Concat_int64, false⟩
abbrev G_slices_Concat_int64 : Env := [(129, C_slices_Grow_int64)]
theorem g_slices_Concat_int64 : EnvOk Try.prog G_slices_Concat_int64 := (env_cons s_slices_Grow_int64 env_nil)
abbrev c_slices_Concat_int64_11 : Cut := ⟨i_slices_Concat_int64_11, o_slices_Concat_int64_11, fun x => iterF l_slices_Concat_int64_11 lots x⟩
theorem t_slices_Concat_int64_11 (rec x) : run T G_slices_Concat_int64 [] (nav Try.f65 [1, 1, 1, 1, 0, 1, 0, 0]) (mk 36 i_slices_Concat_int64_11 x) (loopK i_slices_Concat_int64_11 o_slices_Concat_int64_11 rec) = l_slices_Concat_int64_11 rec x := by kernel_rfl
theorem k_slices_Concat_int64_11 : CutOk Try.prog 36 (.loop (nav Try.f65 [1, 1, 1, 1, 0, 1, 0, 0])) c_slices_Concat_int64_11 :=
  loop_cut (L := []) hT g_slices_Concat_int64 t_slices_Concat_int64_11 (plain_ok (by kernel_rfl)) _
abbrev c_slices_Concat_int64_3 : Cut := ⟨i_slices_Concat_int64_3, o_slices_Concat_int64_3, fun x => iterF l_slices_Concat_int64_3 lots x⟩
theorem t_slices_Concat_int64_3 (rec x) : run T G_slices_Concat_int64 [] (nav Try.f65 [1, 1, 0, 1, 0, 0]) (mk 36 i_slices_Concat_int64_3 x) (loopK i_slices_Concat_int64_3 o_slices_Concat_int64_3 rec) = l_slices_Concat_int64_3 rec x := by kernel_rfl
theorem k_slices_Concat_int64_3 : CutOk Try.prog 36 (.loop (nav Try.f65 [1, 1, 0, 1, 0, 0])) c_slices_Concat_int64_3 :=
  loop_cut (L := []) hT g_slices_Concat_int64 t_slices_Concat_int64_3 (plain_ok (by kernel_rfl)) _
theorem r_slices_Concat_int64 (x) : runFn T G_slices_Concat_int64 [(11, c_slices_Concat_int64_11), (3, c_slices_Concat_int64_3)] Try.f65 P_slices_Concat_int64 R_slices_Concat_int64 x = F_slices_Concat_int64 x := by kernel_rfl
theorem s_slices_Concat_int64 : CallsOk Try.prog 65 C_slices_Concat_int64 :=
  fn_calls (L := [(11, c_slices_Concat_int64_11), (3, c_slices_Concat_int64_3)]) hT g_slices_Concat_int64 Try.f65 (by kernel_rfl) (by kernel_rfl) (by kernel_rfl) (seq_ok (plain_ok (by kernel_rfl)) (seq_ok (plain_ok (by kernel_rfl)) (seq_ok (seq_ok (plain_ok (by kernel_rfl)) (block_ok (by kernel_rfl) (loop_ok (by kernel_rfl) k_slices_Concat_int64_3))) (seq_ok (plain_ok (by kernel_rfl)) (seq_ok (seq_ok (plain_ok (by kernel_rfl)) (block_ok (by kernel_rfl) (loop_ok (by kernel_rfl) k_slices_Concat_int64_11))) (plain_ok (by kernel_rfl))))))) r_slices_Concat_int64
/-! impl.PatchImage -/
abbrev P_impl_PatchImage : List PK := [.val (.slice (.int .i64)), .val (.int .i64), .val (.slice (.int .i64))]
abbrev R_impl_PatchImage : List VK := [.g [.dat (.int .i64), .dat (.int .i64), .own 2 (.int .i64)]]
def F_impl_PatchImage (x : denP P_impl_PatchImage) : Option (denV R_impl_PatchImage × denQ P_impl_PatchImage) :=
  let v1 := ((x.1.length : Nat) : Int)
  (F_impl_within (x.2.1, (0 : Int), v1, ())).bind fun r2 =>
  if (!r2.1.1) then
    some ((((3 : Int), ((0 : Int), (([] : List (den (.int .i64))), ()))), ()), ())
  else
    let v3 := ((x.1.length : Nat) : Int)
    let v4 := ((x.2.2.1.length : Nat) : Int)
    let v5 := (IntKind.i64.wrap (x.2.1 + v4))
    let v6 := (if v5 > v3 then v5 else v3)
    if (ltI (80 : Int) v6) then
      some ((((2 : Int), ((0 : Int), (([] : List (den (.int .i64))), ()))), ()), ())
    else
      (F_impl_areWords (x.1, ())).bind fun r7 =>
      if (!r7.1.1) = false then
        (F_impl_areWords (x.2.2.1, ())).bind fun r8 =>
        if (!r8.1.1) then
          some ((((3 : Int), ((0 : Int), (([] : List (den (.int .i64))), ()))), ()), ())
        else
          if 0 ≤ (0 : Int) ∧ (0 : Int) ≤ x.2.1 ∧ x.2.1 ≤ ((x.1.length : Nat) : Int) then
            let v9 := ((x.1.drop ((0 : Int)).toNat).take ((x.2.1).toNat - ((0 : Int)).toNat))
            (F_slices_Concat_int64 ([v9, x.2.2.1], ())).bind fun r10 =>
            let v11 := ((r10.1.1.length : Nat) : Int)
            if (ltI v11 v6) then
              let v12 := ((r10.1.1.length : Nat) : Int)
              if 0 ≤ v12 ∧ v12 ≤ ((x.1.length : Nat) : Int) ∧ ((x.1.length : Nat) : Int) ≤ ((x.1.length : Nat) : Int) then
                let v13 := ((x.1.drop (v12).toNat).take ((((x.1.length : Nat) : Int)).toNat - (v12).toNat))
                if (r10.1.1.length + v13.length) * 8 ≤ 140737488355328 then
                  let v14 := (r10.1.1 ++ v13)
                  some ((((0 : Int), ((0 : Int), (v14, ()))), ()), ())
                else none
              else none
            else
              some ((((0 : Int), ((0 : Int), (r10.1.1, ()))), ()), ())
          else none
      else
        some ((((3 : Int), ((0 : Int), (([] : List (den (.int .i64))), ()))), ()), ())
abbrev C_impl_PatchImage : Con := ⟨P_impl_PatchImage, R_impl_PatchImage, F_impl_PatchImage, false⟩
abbrev G_impl_PatchImage : Env := [(63, C_impl_within), (64, C_impl_areWords), (65, C_slices_Concat_int64)]
theorem g_impl_PatchImage : EnvOk Try.prog G_impl_PatchImage := (env_cons s_impl_within (env_cons s_impl_areWords (env_cons s_slices_Concat_int64 env_nil)))
theorem r_impl_PatchImage (x) : runFn T G_impl_PatchImage [] Try.f20 P_impl_PatchImage R_impl_PatchImage x = F_impl_PatchImage x := by kernel_rfl
theorem s_impl_PatchImage : CallsOk Try.prog 20 C_impl_PatchImage :=
  fn_calls (L := []) hT g_impl_PatchImage Try.f20 (by kernel_rfl) (by kernel_rfl) (by kernel_rfl) (plain_ok (by kernel_rfl)) r_impl_PatchImage
/-! laws.eqWordsResult -/
abbrev P_laws_eqWordsResult : List PK := [.val (.pair (.int .i64) (.pair (.int .i64) (.pair (.slice (.int .i64)) .unit))), .val (.pair (.int .i64) (.pair (.int .i64) (.pair (.slice (.int .i64)) .unit)))]
abbrev R_laws_eqWordsResult : List VK := [.s (.dat .bool)]
def F_laws_eqWordsResult (x : denP P_laws_eqWordsResult) : Option (denV R_laws_eqWordsResult × denQ P_laws_eqWordsResult) :=
  if (x.1.1 != x.2.1.1) then
    some ((false, ()), ())
  else
    if (x.1.2.1 != x.2.1.2.1) then
      some ((false, ()), ())
    else
      (F_laws_eqInt64S (x.1.2.2.1, x.2.1.2.2.1, ())).bind fun r1 =>
      if (!r1.1.1) then
        some ((false, ()), ())
      else
        some ((true, ()), ())
abbrev C_laws_eqWordsResult : Con := ⟨P_laws_eqWordsResult, R_laws_eqWordsResult, F_laws_eqWordsResult, false⟩
abbrev G_laws_eqWordsResult : Env := [(18, C_laws_eqInt64S)]
theorem g_laws_eqWordsResult : EnvOk Try.prog G_laws_eqWordsResult := (env_cons s_laws_eqInt64S env_nil)
theorem r_laws_eqWordsResult (x) : runFn T G_laws_eqWordsResult [] Try.f21 P_laws_eqWordsResult R_laws_eqWordsResult x = F_laws_eqWordsResult x := by kernel_rfl
theorem s_laws_eqWordsResult : CallsOk Try.prog 21 C_laws_eqWordsResult :=
  fn_calls (L := []) hT g_laws_eqWordsResult Try.f21 (by kernel_rfl) (by kernel_rfl) (by kernel_rfl) (plain_ok (by kernel_rfl)) r_laws_eqWordsResult
/-! laws.markWordsResult -/
abbrev P_laws_markWordsResult : List PK := [.agg [.dat (.int .i64), .dat (.int .i64), .own 2 (.int .i64)], .val (.int .i64)]
abbrev R_laws_markWordsResult : List VK := [.s (.dat (.int .i64))]
def F_laws_markWordsResult (x : denP P_laws_markWordsResult) : Option (denV R_laws_markWordsResult × denQ P_laws_markWordsResult) :=
  (F_laws_markInt64S (x.1.2.2.1, x.2.1, ())).bind fun r1 =>
  if ((x.1.2.2.1.length == r1.2.1.length && true) && true) = true then
    if ((x.1.2.2.1.length == r1.2.1.length && true) && true) = true then
      some ((r1.1.1, ()), ((r1.2.1, ()), ()))
    else none
  else none
abbrev C_laws_markWordsResult : Con := ⟨P_laws_markWordsResult, R_laws_markWordsResult, F_laws_markWordsResult, false⟩
abbrev G_laws_markWordsResult : Env := [(22, C_laws_markInt64S)]
theorem g_laws_markWordsResult : EnvOk Try.prog G_laws_markWordsResult := (env_cons s_laws_markInt64S env_nil)
theorem r_laws_markWordsResult (x) : runFn T G_laws_markWordsResult [] Try.f23 P_laws_markWordsResult R_laws_markWordsResult x = F_laws_markWordsResult x := by kernel_rfl
theorem s_laws_markWordsResult : CallsOk Try.prog 23 C_laws_markWordsResult :=
  fn_calls (L := []) hT g_laws_markWordsResult Try.f23 (by kernel_rfl) (by kernel_rfl) (by kernel_rfl) (plain_ok (by kernel_rfl)) r_laws_markWordsResult
/-! laws.heldWordsResult -/
abbrev P_laws_heldWordsResult : List PK := [.val (.pair (.int .i64) (.pair (.int .i64) (.pair (.slice (.int .i64)) .unit))), .val (.int .i64)]
abbrev R_laws_heldWordsResult : List VK := [.s (.dat (.int .i64))]
def F_laws_heldWordsResult (x : denP P_laws_heldWordsResult) : Option (denV R_laws_heldWordsResult × denQ P_laws_heldWordsResult) :=
  (F_laws_heldInt64S (x.1.2.2.1, x.2.1, ())).bind fun r1 =>
  if (ltI r1.1.1 (0 : Int)) then
    some (((-1 : Int), ()), ())
  else
    some ((r1.1.1, ()), ())
abbrev C_laws_heldWordsResult : Con := ⟨P_laws_heldWordsResult, R_laws_heldWordsResult, F_laws_heldWordsResult, false⟩
abbrev G_laws_heldWordsResult : Env := [(66, C_laws_heldInt64S)]
theorem g_laws_heldWordsResult : EnvOk Try.prog G_laws_heldWordsResult := (env_cons s_laws_heldInt64S env_nil)
theorem r_laws_heldWordsResult (x) : runFn T G_laws_heldWordsResult [] Try.f24 P_laws_heldWordsResult R_laws_heldWordsResult x = F_laws_heldWordsResult x := by kernel_rfl
theorem s_laws_heldWordsResult : CallsOk Try.prog 24 C_laws_heldWordsResult :=
  fn_calls (L := []) hT g_laws_heldWordsResult Try.f24 (by kernel_rfl) (by kernel_rfl) (by kernel_rfl) (plain_ok (by kernel_rfl)) r_laws_heldWordsResult
/-! laws.FnExactPatchImage -/
abbrev P_laws_FnExactPatchImage : List PK := [.val (.slice (.int .i64)), .val (.int .i64), .val (.slice (.int .i64))]
abbrev R_laws_FnExactPatchImage : List VK := [.s (.dat .bool)]
def F_laws_FnExactPatchImage (x : denP P_laws_FnExactPatchImage) : Option (denV R_laws_FnExactPatchImage × denQ P_laws_FnExactPatchImage) :=
  let v1 := ((x.1.length : Nat) : Int)
  if (ltI (1048576 : Int) v1) then
    some ((true, ()), ())
  else
    let v2 := ((x.2.2.1.length : Nat) : Int)
    if (ltI (1048576 : Int) v2) then
      some ((true, ()), ())
    else
      (F_laws_toInt64S (x.1, ())).bind fun r3 =>
      (F_laws_toInt64S (x.2.2.1, ())).bind fun r4 =>
      (F_spec_PatchImage (r3.1.1, x.2.1, r4.1.1, ())).bind fun r5 =>
      (F_laws_toInt64S (x.1, ())).bind fun r6 =>
      (F_laws_toInt64S (x.2.2.1, ())).bind fun r7 =>
      (F_impl_PatchImage (r6.1.1, x.2.1, r7.1.1, ())).bind fun r8 =>
      (F_laws_eqWordsResult ((r8.1.1.1, (r8.1.1.2.1, (r8.1.1.2.2.1, ()))), (r5.1.1.1, (r5.1.1.2.1, (r5.1.1.2.2.1, ()))), ())).bind fun r9 =>
      if (!r9.1.1) then
        some ((false, ()), ())
      else
        (F_laws_toInt64S (x.1, ())).bind fun r10 =>
        (F_laws_eqInt64S (r6.1.1, r10.1.1, ())).bind fun r11 =>
        if (!r11.1.1) then
          some ((false, ()), ())
        else
          (F_laws_toInt64S (x.2.2.1, ())).bind fun r12 =>
          (F_laws_eqInt64S (r7.1.1, r12.1.1, ())).bind fun r13 =>
          if (!r13.1.1) then
            some ((false, ()), ())
          else
            (F_laws_markInt64S (r6.1.1, (1 : Int), ())).bind fun r14 =>
            if ((r6.1.1.length == r14.2.1.length && true) && true) = true then
              (F_laws_markInt64S (r7.1.1, r14.1.1, ())).bind fun r15 =>
              if ((r7.1.1.length == r15.2.1.length && true) && true) = true then
                if (ltI r15.1.1 (0 : Int)) = false then
                  (F_laws_eqWordsResult ((r8.1.1.1, (r8.1.1.2.1, (r8.1.1.2.2.1, ()))), (r5.1.1.1, (r5.1.1.2.1, (r5.1.1.2.2.1, ()))), ())).bind fun r16 =>
                  if (!r16.1.1) then
                    some ((false, ()), ())
                  else
                    (F_laws_markWordsResult ((r8.1.1.1, (r8.1.1.2.1, (r8.1.1.2.2.1, ()))), (1 : Int), ())).bind fun r17 =>
                    if (((r8.1.1.2.2.1.length == r17.2.1.1.length && true) && true) && true) = true then
                      (F_laws_heldWordsResult ((r8.1.1.1, (r8.1.1.2.1, (r17.2.1.1, ()))), (1 : Int), ())).bind fun r18 =>
                      if (ltI r18.1.1 (0 : Int)) then
                        some ((false, ()), ())
                      else
                        if (r18.1.1 != r17.1.1) then
                          some ((false, ()), ())
                        else
                          (F_laws_toInt64S (x.1, ())).bind fun r19 =>
                          (F_laws_toInt64S (x.2.2.1, ())).bind fun r20 =>
                          (F_impl_PatchImage (r19.1.1, x.2.1, r20.1.1, ())).bind fun r21 =>
                          (F_laws_eqWordsResult ((r21.1.1.1, (r21.1.1.2.1, (r21.1.1.2.2.1, ()))), (r5.1.1.1, (r5.1.1.2.1, (r5.1.1.2.2.1, ()))), ())).bind fun r22 =>
                          if (!r22.1.1) then
                            some ((false, ()), ())
                          else
                            (F_laws_heldWordsResult ((r8.1.1.1, (r8.1.1.2.1, (r17.2.1.1, ()))), (1 : Int), ())).bind fun r23 =>
                            if (ltI r23.1.1 (0 : Int)) then
                              some ((false, ()), ())
                            else
                              if (r23.1.1 != r17.1.1) then
                                some ((false, ()), ())
                              else
                                some ((true, ()), ())
                    else none
                else
                  some ((false, ()), ())
              else none
            else none
abbrev C_laws_FnExactPatchImage : Con := ⟨P_laws_FnExactPatchImage, R_laws_FnExactPatchImage, F_laws_FnExactPatchImage, false⟩
abbrev G_laws_FnExactPatchImage : Env := [(15, C_laws_toInt64S), (18, C_laws_eqInt64S), (19, C_spec_PatchImage), (20, C_impl_PatchImage), (21, C_laws_eqWordsResult), (22, C_laws_markInt64S), (23, C_laws_markWordsResult), (24, C_laws_heldWordsResult)]
theorem g_laws_FnExactPatchImage : EnvOk Try.prog G_laws_FnExactPatchImage := (env_cons s_laws_toInt64S (env_cons s_laws_eqInt64S (env_cons s_spec_PatchImage (env_cons s_impl_PatchImage (env_cons s_laws_eqWordsResult (env_cons s_laws_markInt64S (env_cons s_laws_markWordsResult (env_cons s_laws_heldWordsResult env_nil))))))))
theorem r_laws_FnExactPatchImage (x) : runFn T G_laws_FnExactPatchImage [] Try.f4 P_laws_FnExactPatchImage R_laws_FnExactPatchImage x = F_laws_FnExactPatchImage x := by kernel_rfl
theorem s_laws_FnExactPatchImage : CallsOk Try.prog 4 C_laws_FnExactPatchImage :=
  fn_calls (L := []) hT g_laws_FnExactPatchImage Try.f4 (by kernel_rfl) (by kernel_rfl) (by kernel_rfl) (plain_ok (by kernel_rfl)) r_laws_FnExactPatchImage
theorem q_laws_FnExactPatchImage : Sound Try.prog 4 C_laws_FnExactPatchImage :=
  fn_snd (L := []) hT g_laws_FnExactPatchImage Try.f4 (by kernel_rfl) (by kernel_rfl) (plain_ok (by kernel_rfl)) r_laws_FnExactPatchImage
/-! laws.lwBig -/
abbrev P_laws_lwBig : List PK := [.val (.slice (.int .u8))]
abbrev R_laws_lwBig : List VK := [.s (.dat .bool)]
def F_laws_lwBig (x : denP P_laws_lwBig) : Option (denV R_laws_lwBig × denQ P_laws_lwBig) :=
  let v1 := ((x.1.length : Nat) : Int)
  some (((ltI (1048576 : Int) v1), ()), ())
abbrev C_laws_lwBig : Con := ⟨P_laws_lwBig, R_laws_lwBig, F_laws_lwBig, false⟩
abbrev G_laws_lwBig : Env := []
theorem g_laws_lwBig : EnvOk Try.prog G_laws_lwBig := env_nil
theorem r_laws_lwBig (x) : runFn T G_laws_lwBig [] Try.f35 P_laws_lwBig R_laws_lwBig x = F_laws_lwBig x := by kernel_rfl
theorem s_laws_lwBig : CallsOk Try.prog 35 C_laws_lwBig :=
  fn_calls (L := []) hT g_laws_lwBig Try.f35 (by kernel_rfl) (by kernel_rfl) (by kernel_rfl) (plain_ok (by kernel_rfl)) r_laws_lwBig
/-! spec.l1Source -/
abbrev P_spec_l1Source : List PK := [.val (.slice (.int .u8))]
abbrev R_spec_l1Source : List VK := [.s (.bx (.pair (.slice (.int .u8)) (.pair (.int .i64) .unit)))]
def F_spec_l1Source (x : denP P_spec_l1Source) : Option (denV R_spec_l1Source × denQ P_spec_l1Source) := some (((x.1, (0 : Int), ()), ()), ())
abbrev C_spec_l1Source : Con := ⟨P_spec_l1Source, R_spec_l1Source, F_spec_l1Source, false⟩
theorem w_spec_l1Source (A : Option Addr) (n cap : Nat) (w : World) : Calls Try.prog 78 #[.slice A n cap] w fun e w' => e = .returned (.pointer (some ⟨w.heap.size, 0, none⟩)) ∧ w' = w.alloc (.cells #[.slice A n cap, .int .i64 0] 155) := by
  go_enter Try.func78, Try.ntmps78
  go_wp2
  go_ret
  exact ⟨rfl, rfl⟩
theorem s_spec_l1Source : CallsOk Try.prog 78 C_spec_l1Source := (src_sound w_spec_l1Source).ok (enter_ok Try.func78 (by decide +kernel) (by kernel_rfl))
/-! spec.l1Next -/
abbrev P_spec_l1Next : List PK := [.box [.dat (.slice (.int .u8)), .dat (.int .i64)] [.dat (.slice (.int .u8)), .dat (.int .i64)], .val (.int .i64)]
abbrev R_spec_l1Next : List VK := [.s (.dat (.int .i64))]
def F_spec_l1Next (x : denP P_spec_l1Next) : Option (denV R_spec_l1Next × denQ P_spec_l1Next) :=
  let v1 := (IntKind.i64.wrap (x.1.2.1 + (1 : Int)))
  if (ltI x.2.1 (1 : Int)) then
    some (((0 : Int), ()), ((x.1.1, (v1, ())), ()))
  else
    let v2 := (IntKind.i64.wrap (v1 - (1 : Int)))
    let v3 := ((x.1.1.length : Nat) : Int)
    if (v3 == (0 : Int)) then
      let v4 := (IntKind.i64.wrap (v2 * (7 : Int)))
      if x.2.1 = 0 then none else
      let v5 := ((v4).tmod x.2.1)
      some ((v5, ()), ((x.1.1, (v1, ())), ()))
    else
      if v3 = 0 then none else
      let v6 := ((v2).tmod v3)
      if 0 ≤ v6 then
        ((x.1.1)[(v6).toNat]?).bind fun y7 =>
        let v8 := (IntKind.i64.wrap y7)
        if v3 = 0 then none else
        let v9 := (IntKind.i64.wrap ((v2).tdiv v3))
        let v10 := (IntKind.i64.wrap (v9 * (37 : Int)))
        let v11 := (IntKind.i64.wrap (v8 + v10))
        if (ltI (200 : Int) x.2.1) then
          let v12 := (IntKind.i64.wrap (v11 * (251 : Int)))
          let v13 := (IntKind.i64.wrap (v2 + (1 : Int)))
          if v3 = 0 then none else
          let v14 := ((v13).tmod v3)
          if 0 ≤ v14 then
            ((x.1.1)[(v14).toNat]?).bind fun y15 =>
            let v16 := (IntKind.i64.wrap y15)
            let v17 := (IntKind.i64.wrap (v16 * (13 : Int)))
            let v18 := (IntKind.i64.wrap (v12 + v17))
            let v19 := (IntKind.i64.wrap (v18 + v2))
            if x.2.1 = 0 then none else
            let v20 := ((v19).tmod x.2.1)
            some ((v20, ()), ((x.1.1, (v1, ())), ()))
          else none
        else
          if x.2.1 = 0 then none else
          let v21 := ((v11).tmod x.2.1)
          some ((v21, ()), ((x.1.1, (v1, ())), ()))
      else none
abbrev C_spec_l1Next : Con := ⟨P_spec_l1Next, R_spec_l1Next, F_spec_l1Next, false⟩
abbrev G_spec_l1Next : Env := []
theorem g_spec_l1Next : EnvOk Try.prog G_spec_l1Next := env_nil
theorem r_spec_l1Next (x) : runFn T G_spec_l1Next [] Try.f81 P_spec_l1Next R_spec_l1Next x = F_spec_l1Next x := by kernel_rfl
theorem s_spec_l1Next : CallsOk Try.prog 81 C_spec_l1Next :=
  fn_calls (L := []) hT g_spec_l1Next Try.f81 (by kernel_rfl) (by kernel_rfl) (by kernel_rfl) (plain_ok (by kernel_rfl)) r_spec_l1Next
/-! spec.l1Pick -/
abbrev P_spec_l1Pick : List PK := [.box [.dat (.slice (.int .u8)), .dat (.int .i64)] [.dat (.slice (.int .u8)), .dat (.int .i64)], .val (.slice (.int .i64))]
abbrev R_spec_l1Pick : List VK := [.s (.dat (.int .i64))]
def F_spec_l1Pick (x : denP P_spec_l1Pick) : Option (denV R_spec_l1Pick × denQ P_spec_l1Pick) :=
  let v1 := ((x.2.1.length : Nat) : Int)
  (F_spec_l1Next ((x.1.1, (x.1.2.1, ())), v1, ())).bind fun r2 =>
  if 0 ≤ r2.1.1 then
    ((x.2.1)[(r2.1.1).toNat]?).bind fun y3 =>
    some ((y3, ()), ((r2.2.1.1, (r2.2.1.2.1, ())), ()))
  else none
abbrev C_spec_l1Pick : Con := ⟨P_spec_l1Pick, R_spec_l1Pick, F_spec_l1Pick, false⟩
abbrev G_spec_l1Pick : Env := [(81, C_spec_l1Next)]
theorem g_spec_l1Pick : EnvOk Try.prog G_spec_l1Pick := (env_cons s_spec_l1Next env_nil)
theorem r_spec_l1Pick (x) : runFn T G_spec_l1Pick [] Try.f80 P_spec_l1Pick R_spec_l1Pick x = F_spec_l1Pick x := by kernel_rfl
theorem s_spec_l1Pick : CallsOk Try.prog 80 C_spec_l1Pick :=
  fn_calls (L := []) hT g_spec_l1Pick Try.f80 (by kernel_rfl) (by kernel_rfl) (by kernel_rfl) (plain_ok (by kernel_rfl)) r_spec_l1Pick
/-! spec.l2Bare -/
abbrev P_spec_l2Bare : List PK := [.val (.int .i64)]
abbrev R_spec_l2Bare : List VK := [.s (.dat .bool), .s (.dat .bool), .s (.dat .bool)]
def F_spec_l2Bare (x : denP P_spec_l2Bare) : Option (denV R_spec_l2Bare × denQ P_spec_l2Bare) :=
  if (x.1 == (13 : Int)) then
    if (x.1 == (13 : Int)) then
      some ((false, true, false, ()), ())
    else
      if (x.1 == (22 : Int)) then
        some ((true, false, false, ()), ())
      else
        if (x.1 == (23 : Int)) then
          if (x.1 == (23 : Int)) then
            some ((true, true, true, ()), ())
          else
            some ((false, false, false, ()), ())
        else
          if (x.1 == (24 : Int)) then
            if (x.1 == (24 : Int)) then
              some ((true, true, true, ()), ())
            else
              some ((false, false, false, ()), ())
          else
            if (x.1 == (25 : Int)) then
              if (x.1 == (25 : Int)) then
                some ((true, true, true, ()), ())
              else
                some ((false, false, false, ()), ())
            else
              if (x.1 == (26 : Int)) then
                some ((true, true, true, ()), ())
              else
                some ((false, false, false, ()), ())
  else
    if (x.1 == (19 : Int)) then
      if (x.1 == (19 : Int)) then
        some ((false, true, false, ()), ())
      else
        if (x.1 == (22 : Int)) then
          some ((true, false, false, ()), ())
        else
          if (x.1 == (23 : Int)) then
            if (x.1 == (23 : Int)) then
              some ((true, true, true, ()), ())
            else
              some ((false, false, false, ()), ())
          else
            if (x.1 == (24 : Int)) then
              if (x.1 == (24 : Int)) then
                some ((true, true, true, ()), ())
              else
                some ((false, false, false, ()), ())
            else
              if (x.1 == (25 : Int)) then
                if (x.1 == (25 : Int)) then
                  some ((true, true, true, ()), ())
                else
                  some ((false, false, false, ()), ())
              else
                if (x.1 == (26 : Int)) then
                  some ((true, true, true, ()), ())
                else
                  some ((false, false, false, ()), ())
    else
      if (x.1 == (21 : Int)) then
        some ((false, true, false, ()), ())
      else
        if (x.1 == (22 : Int)) then
          some ((true, false, false, ()), ())
        else
          if (x.1 == (23 : Int)) then
            if (x.1 == (23 : Int)) then
              some ((true, true, true, ()), ())
            else
              some ((false, false, false, ()), ())
          else
            if (x.1 == (24 : Int)) then
              if (x.1 == (24 : Int)) then
                some ((true, true, true, ()), ())
              else
                some ((false, false, false, ()), ())
            else
              if (x.1 == (25 : Int)) then
                if (x.1 == (25 : Int)) then
                  some ((true, true, true, ()), ())
                else
                  some ((false, false, false, ()), ())
              else
                if (x.1 == (26 : Int)) then
                  some ((true, true, true, ()), ())
                else
                  some ((false, false, false, ()), ())
abbrev C_spec_l2Bare : Con := ⟨P_spec_l2Bare, R_spec_l2Bare, F_spec_l2Bare, false⟩
abbrev G_spec_l2Bare : Env := []
theorem g_spec_l2Bare : EnvOk Try.prog G_spec_l2Bare := env_nil
theorem r_spec_l2Bare (x) : runFn T G_spec_l2Bare [] Try.f189 P_spec_l2Bare R_spec_l2Bare x = F_spec_l2Bare x := by kernel_rfl
theorem s_spec_l2Bare : CallsOk Try.prog 189 C_spec_l2Bare :=
  fn_calls (L := []) hT g_spec_l2Bare Try.f189 (by kernel_rfl) (by kernel_rfl) (by kernel_rfl) (plain_ok (by kernel_rfl)) r_spec_l2Bare
/-! spec.l2Ins -/
abbrev P_spec_l2Ins : List PK := [.box [.dat (.slice (.int .u8)), .dat (.int .i64)] [.dat (.slice (.int .u8)), .dat (.int .i64)]]
abbrev R_spec_l2Ins : List VK := [.s (.dat (.pair (.int .i64) (.pair (.int .i64) (.pair (.int .i64) (.pair (.int .i64) .unit)))))]
def F_spec_l2Ins (x : denP P_spec_l2Ins) : Option (denV R_spec_l2Ins × denQ P_spec_l2Ins) :=
  (F_spec_l1Next ((x.1.1, (x.1.2.1, ())), (26 : Int), ())).bind fun r1 =>
  let v2 := (IntKind.i64.wrap ((1 : Int) + r1.1.1))
  (F_spec_l1Next ((r1.2.1.1, (r1.2.1.2.1, ())), (16 : Int), ())).bind fun r3 =>
  (F_spec_l1Next ((r3.2.1.1, (r3.2.1.2.1, ())), (16 : Int), ())).bind fun r4 =>
  (F_spec_l1Next ((r4.2.1.1, (r4.2.1.2.1, ())), (16 : Int), ())).bind fun r5 =>
  (F_spec_l1Next ((r5.2.1.1, (r5.2.1.2.1, ())), (64 : Int), ())).bind fun r6 =>
  (F_spec_l1Next ((r6.2.1.1, (r6.2.1.2.1, ())), (8 : Int), ())).bind fun r7 =>
  let v8 := (IntKind.i64.wrap ((65535 : Int) - r7.1.1))
  (F_spec_l1Pick ((r7.2.1.1, (r7.2.1.2.1, ())), [r5.1.1, r6.1.1, v8], ())).bind fun r9 =>
  (F_spec_l2Bare (v2, ())).bind fun r10 =>
  if r10.1.1 then
    if r10.1.2.1 then
      if r10.1.2.2.1 then
        if (leI v2 (11 : Int)) then
          let v11 := (((0 : Int)).tmod (16 : Int))
          if (v2 == (21 : Int)) = false then
            if (v2 == (22 : Int)) then
              let v12 := ((v11).tmod (11 : Int))
              some (((v2, ((0 : Int), ((0 : Int), (v12, ())))), ()), ((r9.2.1.1, (r9.2.1.2.1, ())), ()))
            else
              some (((v2, ((0 : Int), ((0 : Int), (v11, ())))), ()), ((r9.2.1.1, (r9.2.1.2.1, ())), ()))
          else
            let v13 := ((v11).tmod (11 : Int))
            some (((v2, ((0 : Int), ((0 : Int), (v13, ())))), ()), ((r9.2.1.1, (r9.2.1.2.1, ())), ()))
        else
          if (v2 == (21 : Int)) = false then
            if (v2 == (22 : Int)) then
              let v14 := (((0 : Int)).tmod (11 : Int))
              some (((v2, ((0 : Int), ((0 : Int), (v14, ())))), ()), ((r9.2.1.1, (r9.2.1.2.1, ())), ()))
            else
              some (((v2, ((0 : Int), ((0 : Int), ((0 : Int), ())))), ()), ((r9.2.1.1, (r9.2.1.2.1, ())), ()))
          else
            let v15 := (((0 : Int)).tmod (11 : Int))
            some (((v2, ((0 : Int), ((0 : Int), (v15, ())))), ()), ((r9.2.1.1, (r9.2.1.2.1, ())), ()))
      else
        if (leI v2 (11 : Int)) then
          let v16 := ((r9.1.1).tmod (16 : Int))
          if (v2 == (21 : Int)) = false then
            if (v2 == (22 : Int)) then
              let v17 := ((v16).tmod (11 : Int))
              some (((v2, ((0 : Int), ((0 : Int), (v17, ())))), ()), ((r9.2.1.1, (r9.2.1.2.1, ())), ()))
            else
              some (((v2, ((0 : Int), ((0 : Int), (v16, ())))), ()), ((r9.2.1.1, (r9.2.1.2.1, ())), ()))
          else
            let v18 := ((v16).tmod (11 : Int))
            some (((v2, ((0 : Int), ((0 : Int), (v18, ())))), ()), ((r9.2.1.1, (r9.2.1.2.1, ())), ()))
        else
          if (v2 == (21 : Int)) = false then
            if (v2 == (22 : Int)) then
              let v19 := ((r9.1.1).tmod (11 : Int))
              some (((v2, ((0 : Int), ((0 : Int), (v19, ())))), ()), ((r9.2.1.1, (r9.2.1.2.1, ())), ()))
            else
              some (((v2, ((0 : Int), ((0 : Int), (r9.1.1, ())))), ()), ((r9.2.1.1, (r9.2.1.2.1, ())), ()))
          else
            let v20 := ((r9.1.1).tmod (11 : Int))
            some (((v2, ((0 : Int), ((0 : Int), (v20, ())))), ()), ((r9.2.1.1, (r9.2.1.2.1, ())), ()))
    else
      if r10.1.2.2.1 then
        if (leI v2 (11 : Int)) then
          let v21 := (((0 : Int)).tmod (16 : Int))
          if (v2 == (21 : Int)) = false then
            if (v2 == (22 : Int)) then
              let v22 := ((v21).tmod (11 : Int))
              some (((v2, ((0 : Int), (r4.1.1, (v22, ())))), ()), ((r9.2.1.1, (r9.2.1.2.1, ())), ()))
            else
              some (((v2, ((0 : Int), (r4.1.1, (v21, ())))), ()), ((r9.2.1.1, (r9.2.1.2.1, ())), ()))
          else
            let v23 := ((v21).tmod (11 : Int))
            some (((v2, ((0 : Int), (r4.1.1, (v23, ())))), ()), ((r9.2.1.1, (r9.2.1.2.1, ())), ()))
        else
          if (v2 == (21 : Int)) = false then
            if (v2 == (22 : Int)) then
              let v24 := (((0 : Int)).tmod (11 : Int))
              some (((v2, ((0 : Int), (r4.1.1, (v24, ())))), ()), ((r9.2.1.1, (r9.2.1.2.1, ())), ()))
            else
              some (((v2, ((0 : Int), (r4.1.1, ((0 : Int), ())))), ()), ((r9.2.1.1, (r9.2.1.2.1, ())), ()))
          else
            let v25 := (((0 : Int)).tmod (11 : Int))
            some (((v2, ((0 : Int), (r4.1.1, (v25, ())))), ()), ((r9.2.1.1, (r9.2.1.2.1, ())), ()))
      else
        if (leI v2 (11 : Int)) then
          let v26 := ((r9.1.1).tmod (16 : Int))
          if (v2 == (21 : Int)) = false then
            if (v2 == (22 : Int)) then
              let v27 := ((v26).tmod (11 : Int))
              some (((v2, ((0 : Int), (r4.1.1, (v27, ())))), ()), ((r9.2.1.1, (r9.2.1.2.1, ())), ()))
            else
              some (((v2, ((0 : Int), (r4.1.1, (v26, ())))), ()), ((r9.2.1.1, (r9.2.1.2.1, ())), ()))
          else
            let v28 := ((v26).tmod (11 : Int))
            some (((v2, ((0 : Int), (r4.1.1, (v28, ())))), ()), ((r9.2.1.1, (r9.2.1.2.1, ())), ()))
        else
          if (v2 == (21 : Int)) = false then
            if (v2 == (22 : Int)) then
              let v29 := ((r9.1.1).tmod (11 : Int))
              some (((v2, ((0 : Int), (r4.1.1, (v29, ())))), ()), ((r9.2.1.1, (r9.2.1.2.1, ())), ()))
            else
              some (((v2, ((0 : Int), (r4.1.1, (r9.1.1, ())))), ()), ((r9.2.1.1, (r9.2.1.2.1, ())), ()))
          else
            let v30 := ((r9.1.1).tmod (11 : Int))
            some (((v2, ((0 : Int), (r4.1.1, (v30, ())))), ()), ((r9.2.1.1, (r9.2.1.2.1, ())), ()))
  else
    if r10.1.2.1 then
      if r10.1.2.2.1 then
        if (leI v2 (11 : Int)) then
          let v31 := (((0 : Int)).tmod (16 : Int))
          if (v2 == (21 : Int)) = false then
            if (v2 == (22 : Int)) then
              let v32 := ((v31).tmod (11 : Int))
              some (((v2, (r3.1.1, ((0 : Int), (v32, ())))), ()), ((r9.2.1.1, (r9.2.1.2.1, ())), ()))
            else
              some (((v2, (r3.1.1, ((0 : Int), (v31, ())))), ()), ((r9.2.1.1, (r9.2.1.2.1, ())), ()))
          else
            let v33 := ((v31).tmod (11 : Int))
            some (((v2, (r3.1.1, ((0 : Int), (v33, ())))), ()), ((r9.2.1.1, (r9.2.1.2.1, ())), ()))
        else
          if (v2 == (21 : Int)) = false then
            if (v2 == (22 : Int)) then
              let v34 := (((0 : Int)).tmod (11 : Int))
              some (((v2, (r3.1.1, ((0 : Int), (v34, ())))), ()), ((r9.2.1.1, (r9.2.1.2.1, ())), ()))
            else
              some (((v2, (r3.1.1, ((0 : Int), ((0 : Int), ())))), ()), ((r9.2.1.1, (r9.2.1.2.1, ())), ()))
          else
            let v35 := (((0 : Int)).tmod (11 : Int))
            some (((v2, (r3.1.1, ((0 : Int), (v35, ())))), ()), ((r9.2.1.1, (r9.2.1.2.1, ())), ()))
      else
        if (leI v2 (11 : Int)) then
          let v36 := ((r9.1.1).tmod (16 : Int))
          if (v2 == (21 : Int)) = false then
            if (v2 == (22 : Int)) then
              let v37 := ((v36).tmod (11 : Int))
              some (((v2, (r3.1.1, ((0 : Int), (v37, ())))), ()), ((r9.2.1.1, (r9.2.1.2.1, ())), ()))
            else
              some (((v2, (r3.1.1, ((0 : Int), (v36, ())))), ()), ((r9.2.1.1, (r9.2.1.2.1, ())), ()))
          else
            let v38 := ((v36).tmod (11 : Int))
            some (((v2, (r3.1.1, ((0 : Int), (v38, ())))), ()), ((r9.2.1.1, (r9.2.1.2.1, ())), ()))
        else
          if (v2 == (21 : Int)) = false then
            if (v2 == (22 : Int)) then
              let v39 := ((r9.1.1).tmod (11 : Int))
              some (((v2, (r3.1.1, ((0 : Int), (v39, ())))), ()), ((r9.2.1.1, (r9.2.1.2.1, ())), ()))
            else
              some (((v2, (r3.1.1, ((0 : Int), (r9.1.1, ())))), ()), ((r9.2.1.1, (r9.2.1.2.1, ())), ()))
          else
            let v40 := ((r9.1.1).tmod (11 : Int))
            some (((v2, (r3.1.1, ((0 : Int), (v40, ())))), ()), ((r9.2.1.1, (r9.2.1.2.1, ())), ()))
    else
      if r10.1.2.2.1 then
        if (leI v2 (11 : Int)) then
          let v41 := (((0 : Int)).tmod (16 : Int))
          if (v2 == (21 : Int)) = false then
            if (v2 == (22 : Int)) then
              let v42 := ((v41).tmod (11 : Int))
              some (((v2, (r3.1.1, (r4.1.1, (v42, ())))), ()), ((r9.2.1.1, (r9.2.1.2.1, ())), ()))
            else
              some (((v2, (r3.1.1, (r4.1.1, (v41, ())))), ()), ((r9.2.1.1, (r9.2.1.2.1, ())), ()))
          else
            let v43 := ((v41).tmod (11 : Int))
            some (((v2, (r3.1.1, (r4.1.1, (v43, ())))), ()), ((r9.2.1.1, (r9.2.1.2.1, ())), ()))
        else
          if (v2 == (21 : Int)) = false then
            if (v2 == (22 : Int)) then
              let v44 := (((0 : Int)).tmod (11 : Int))
              some (((v2, (r3.1.1, (r4.1.1, (v44, ())))), ()), ((r9.2.1.1, (r9.2.1.2.1, ())), ()))
            else
              some (((v2, (r3.1.1, (r4.1.1, ((0 : Int), ())))), ()), ((r9.2.1.1, (r9.2.1.2.1, ())), ()))
          else
            let v45 := (((0 : Int)).tmod (11 : Int))
            some (((v2, (r3.1.1, (r4.1.1, (v45, ())))), ()), ((r9.2.1.1, (r9.2.1.2.1, ())), ()))
      else
        if (leI v2 (11 : Int)) then
          let v46 := ((r9.1.1).tmod (16 : Int))
          if (v2 == (21 : Int)) = false then
            if (v2 == (22 : Int)) then
              let v47 := ((v46).tmod (11 : Int))
              some (((v2, (r3.1.1, (r4.1.1, (v47, ())))), ()), ((r9.2.1.1, (r9.2.1.2.1, ())), ()))
            else
              some (((v2, (r3.1.1, (r4.1.1, (v46, ())))), ()), ((r9.2.1.1, (r9.2.1.2.1, ())), ()))
          else
            let v48 := ((v46).tmod (11 : Int))
            some (((v2, (r3.1.1, (r4.1.1, (v48, ())))), ()), ((r9.2.1.1, (r9.2.1.2.1, ())), ()))
        else
          if (v2 == (21 : Int)) = false then
            if (v2 == (22 : Int)) then
              let v49 := ((r9.1.1).tmod (11 : Int))
              some (((v2, (r3.1.1, (r4.1.1, (v49, ())))), ()), ((r9.2.1.1, (r9.2.1.2.1, ())), ()))
            else
              some (((v2, (r3.1.1, (r4.1.1, (r9.1.1, ())))), ()), ((r9.2.1.1, (r9.2.1.2.1, ())), ()))
          else
            let v50 := ((r9.1.1).tmod (11 : Int))
            some (((v2, (r3.1.1, (r4.1.1, (v50, ())))), ()), ((r9.2.1.1, (r9.2.1.2.1, ())), ()))
abbrev C_spec_l2Ins : Con := ⟨P_spec_l2Ins, R_spec_l2Ins, F_spec_l2Ins, false⟩
abbrev G_spec_l2Ins : Env := [(80, C_spec_l1Pick), (81, C_spec_l1Next), (189, C_spec_l2Bare)]
theorem g_spec_l2Ins : EnvOk Try.prog G_spec_l2Ins := (env_cons s_spec_l1Pick (env_cons s_spec_l1Next (env_cons s_spec_l2Bare env_nil)))
theorem r_spec_l2Ins (x) : runFn T G_spec_l2Ins [] Try.f164 P_spec_l2Ins R_spec_l2Ins x = F_spec_l2Ins x := by kernel_rfl
theorem s_spec_l2Ins : CallsOk Try.prog 164 C_spec_l2Ins :=
  fn_calls (L := []) hT g_spec_l2Ins Try.f164 (by kernel_rfl) (by kernel_rfl) (by kernel_rfl) (plain_ok (by kernel_rfl)) r_spec_l2Ins
/-! spec.l7Ins -/
abbrev P_spec_l7Ins : List PK := [.box [.dat (.slice (.int .u8)), .dat (.int .i64)] [.dat (.slice (.int .u8)), .dat (.int .i64)]]
abbrev R_spec_l7Ins : List VK := [.s (.dat (.pair (.int .i64) (.pair (.int .i64) (.pair (.int .i64) (.pair (.int .i64) .unit)))))]
def F_spec_l7Ins (x : denP P_spec_l7Ins) : Option (denV R_spec_l7Ins × denQ P_spec_l7Ins) :=
  (F_spec_l1Next ((x.1.1, (x.1.2.1, ())), (3 : Int), ())).bind fun r1 =>
  let v2 := (IntKind.i64.wrap ((1 : Int) + r1.1.1))
  (F_spec_l1Next ((r1.2.1.1, (r1.2.1.2.1, ())), (14 : Int), ())).bind fun r3 =>
  if (r3.1.1 == (0 : Int)) then
    if (r3.1.1 == (0 : Int)) then
      (F_spec_l1Next ((r3.2.1.1, (r3.2.1.2.1, ())), (4 : Int), ())).bind fun r4 =>
      (F_spec_l1Next ((r4.2.1.1, (r4.2.1.2.1, ())), (9 : Int), ())).bind fun r5 =>
      (F_spec_l1Next ((r5.2.1.1, (r5.2.1.2.1, ())), (8 : Int), ())).bind fun r6 =>
      let v7 := (IntKind.i64.wrap ((56 : Int) + r6.1.1))
      (F_spec_l1Next ((r6.2.1.1, (r6.2.1.2.1, ())), (16 : Int), ())).bind fun r8 =>
      let v9 := (IntKind.i64.wrap ((40 : Int) + r8.1.1))
      (F_spec_l1Pick ((r8.2.1.1, (r8.2.1.2.1, ())), [r5.1.1, v7, v9, (65535 : Int)], ())).bind fun r10 =>
      some ((((12 : Int), (v2, (r4.1.1, (r10.1.1, ())))), ()), ((r10.2.1.1, (r10.2.1.2.1, ())), ()))
    else
      if (r3.1.1 == (3 : Int)) then
        (F_spec_l1Next ((r3.2.1.1, (r3.2.1.2.1, ())), (11 : Int), ())).bind fun r11 =>
        let v12 := (IntKind.i64.wrap ((1 : Int) + r11.1.1))
        (F_spec_l1Next ((r11.2.1.1, (r11.2.1.2.1, ())), (4 : Int), ())).bind fun r13 =>
        (F_spec_l1Next ((r13.2.1.1, (r13.2.1.2.1, ())), (4 : Int), ())).bind fun r14 =>
        some (((v12, (v2, (r13.1.1, (r14.1.1, ())))), ()), ((r14.2.1.1, (r14.2.1.2.1, ())), ()))
      else
        if (r3.1.1 == (4 : Int)) then
          if (r3.1.1 == (4 : Int)) then
            (F_spec_l1Next ((r3.2.1.1, (r3.2.1.2.1, ())), (4 : Int), ())).bind fun r15 =>
            (F_spec_l1Next ((r15.2.1.1, (r15.2.1.2.1, ())), (24 : Int), ())).bind fun r16 =>
            (F_spec_l1Next ((r16.2.1.1, (r16.2.1.2.1, ())), (16 : Int), ())).bind fun r17 =>
            let v18 := (IntKind.i64.wrap ((40 : Int) + r17.1.1))
            (F_spec_l1Next ((r17.2.1.1, (r17.2.1.2.1, ())), (6 : Int), ())).bind fun r19 =>
            let v20 := (IntKind.i64.wrap ((56 : Int) + r19.1.1))
            (F_spec_l1Pick ((r19.2.1.1, (r19.2.1.2.1, ())), [r16.1.1, v18, v20], ())).bind fun r21 =>
            some ((((15 : Int), (v2, (r15.1.1, (r21.1.1, ())))), ()), ((r21.2.1.1, (r21.2.1.2.1, ())), ()))
          else
            if (r3.1.1 == (6 : Int)) then
              if (r3.1.1 == (6 : Int)) then
                (F_spec_l1Next ((r3.2.1.1, (r3.2.1.2.1, ())), (4 : Int), ())).bind fun r22 =>
                (F_spec_l1Next ((r22.2.1.1, (r22.2.1.2.1, ())), (24 : Int), ())).bind fun r23 =>
                (F_spec_l1Next ((r23.2.1.1, (r23.2.1.2.1, ())), (16 : Int), ())).bind fun r24 =>
                let v25 := (IntKind.i64.wrap ((40 : Int) + r24.1.1))
                (F_spec_l1Next ((r24.2.1.1, (r24.2.1.2.1, ())), (6 : Int), ())).bind fun r26 =>
                let v27 := (IntKind.i64.wrap ((56 : Int) + r26.1.1))
                (F_spec_l1Pick ((r26.2.1.1, (r26.2.1.2.1, ())), [r23.1.1, v25, v27], ())).bind fun r28 =>
                some ((((14 : Int), (v2, (r22.1.1, (r28.1.1, ())))), ()), ((r28.2.1.1, (r28.2.1.2.1, ())), ()))
              else
                if (r3.1.1 == (8 : Int)) then
                  (F_spec_l1Pick ((r3.2.1.1, (r3.2.1.2.1, ())), [(16 : Int), (17 : Int), (18 : Int)], ())).bind fun r29 =>
                  (F_spec_l1Next ((r29.2.1.1, (r29.2.1.2.1, ())), (4 : Int), ())).bind fun r30 =>
                  (F_spec_l1Pick ((r30.2.1.1, (r30.2.1.2.1, ())), [(1 : Int), (2 : Int), (65535 : Int), (65533 : Int)], ())).bind fun r31 =>
                  some (((r29.1.1, (v2, (r30.1.1, (r31.1.1, ())))), ()), ((r31.2.1.1, (r31.2.1.2.1, ())), ()))
                else
                  if (r3.1.1 == (9 : Int)) then
                    (F_spec_l1Pick ((r3.2.1.1, (r3.2.1.2.1, ())), [(0 : Int), (1 : Int), (7 : Int), (9 : Int), (10 : Int), (5 : Int), (6 : Int)], ())).bind fun r32 =>
                    some ((((22 : Int), ((0 : Int), (v2, (r32.1.1, ())))), ()), ((r32.2.1.1, (r32.2.1.2.1, ())), ()))
                  else
                    if (r3.1.1 == (10 : Int)) then
                      (F_spec_l1Next ((r3.2.1.1, (r3.2.1.2.1, ())), (11 : Int), ())).bind fun r33 =>
                      some ((((21 : Int), (v2, ((0 : Int), (r33.1.1, ())))), ()), ((r33.2.1.1, (r33.2.1.2.1, ())), ()))
                    else
                      if (r3.1.1 == (11 : Int)) then
                        (F_spec_l1Pick ((r3.2.1.1, (r3.2.1.2.1, ())), [(0 : Int), (5 : Int)], ())).bind fun r34 =>
                        (F_spec_l1Pick ((r34.2.1.1, (r34.2.1.2.1, ())), [(65534 : Int), (65530 : Int), (2 : Int)], ())).bind fun r35 =>
                        some ((((19 : Int), (r34.1.1, ((0 : Int), (r35.1.1, ())))), ()), ((r35.2.1.1, (r35.2.1.2.1, ())), ()))
                      else
                        (F_spec_l2Ins ((r3.2.1.1, (r3.2.1.2.1, ())), ())).bind fun r36 =>
                        some ((r36.1.1, ()), ((r36.2.1.1, (r36.2.1.2.1, ())), ()))
            else
              if (r3.1.1 == (7 : Int)) then
                (F_spec_l1Next ((r3.2.1.1, (r3.2.1.2.1, ())), (4 : Int), ())).bind fun r37 =>
                (F_spec_l1Next ((r37.2.1.1, (r37.2.1.2.1, ())), (24 : Int), ())).bind fun r38 =>
                (F_spec_l1Next ((r38.2.1.1, (r38.2.1.2.1, ())), (16 : Int), ())).bind fun r39 =>
                let v40 := (IntKind.i64.wrap ((40 : Int) + r39.1.1))
                (F_spec_l1Next ((r39.2.1.1, (r39.2.1.2.1, ())), (6 : Int), ())).bind fun r41 =>
                let v42 := (IntKind.i64.wrap ((56 : Int) + r41.1.1))
                (F_spec_l1Pick ((r41.2.1.1, (r41.2.1.2.1, ())), [r38.1.1, v40, v42], ())).bind fun r43 =>
                some ((((14 : Int), (v2, (r37.1.1, (r43.1.1, ())))), ()), ((r43.2.1.1, (r43.2.1.2.1, ())), ()))
              else
                if (r3.1.1 == (8 : Int)) then
                  (F_spec_l1Pick ((r3.2.1.1, (r3.2.1.2.1, ())), [(16 : Int), (17 : Int), (18 : Int)], ())).bind fun r44 =>
                  (F_spec_l1Next ((r44.2.1.1, (r44.2.1.2.1, ())), (4 : Int), ())).bind fun r45 =>
                  (F_spec_l1Pick ((r45.2.1.1, (r45.2.1.2.1, ())), [(1 : Int), (2 : Int), (65535 : Int), (65533 : Int)], ())).bind fun r46 =>
                  some (((r44.1.1, (v2, (r45.1.1, (r46.1.1, ())))), ()), ((r46.2.1.1, (r46.2.1.2.1, ())), ()))
                else
                  if (r3.1.1 == (9 : Int)) then
                    (F_spec_l1Pick ((r3.2.1.1, (r3.2.1.2.1, ())), [(0 : Int), (1 : Int), (7 : Int), (9 : Int), (10 : Int), (5 : Int), (6 : Int)], ())).bind fun r47 =>
                    some ((((22 : Int), ((0 : Int), (v2, (r47.1.1, ())))), ()), ((r47.2.1.1, (r47.2.1.2.1, ())), ()))
                  else
                    if (r3.1.1 == (10 : Int)) then
                      (F_spec_l1Next ((r3.2.1.1, (r3.2.1.2.1, ())), (11 : Int), ())).bind fun r48 =>
                      some ((((21 : Int), (v2, ((0 : Int), (r48.1.1, ())))), ()), ((r48.2.1.1, (r48.2.1.2.1, ())), ()))
                    else
                      if (r3.1.1 == (11 : Int)) then
                        (F_spec_l1Pick ((r3.2.1.1, (r3.2.1.2.1, ())), [(0 : Int), (5 : Int)], ())).bind fun r49 =>
                        (F_spec_l1Pick ((r49.2.1.1, (r49.2.1.2.1, ())), [(65534 : Int), (65530 : Int), (2 : Int)], ())).bind fun r50 =>
                        some ((((19 : Int), (r49.1.1, ((0 : Int), (r50.1.1, ())))), ()), ((r50.2.1.1, (r50.2.1.2.1, ())), ()))
                      else
                        (F_spec_l2Ins ((r3.2.1.1, (r3.2.1.2.1, ())), ())).bind fun r51 =>
                        some ((r51.1.1, ()), ((r51.2.1.1, (r51.2.1.2.1, ())), ()))
        else
          if (r3.1.1 == (5 : Int)) then
            (F_spec_l1Next ((r3.2.1.1, (r3.2.1.2.1, ())), (4 : Int), ())).bind fun r52 =>
            (F_spec_l1Next ((r52.2.1.1, (r52.2.1.2.1, ())), (24 : Int), ())).bind fun r53 =>
            (F_spec_l1Next ((r53.2.1.1, (r53.2.1.2.1, ())), (16 : Int), ())).bind fun r54 =>
            let v55 := (IntKind.i64.wrap ((40 : Int) + r54.1.1))
            (F_spec_l1Next ((r54.2.1.1, (r54.2.1.2.1, ())), (6 : Int), ())).bind fun r56 =>
            let v57 := (IntKind.i64.wrap ((56 : Int) + r56.1.1))
            (F_spec_l1Pick ((r56.2.1.1, (r56.2.1.2.1, ())), [r53.1.1, v55, v57], ())).bind fun r58 =>
            some ((((15 : Int), (v2, (r52.1.1, (r58.1.1, ())))), ()), ((r58.2.1.1, (r58.2.1.2.1, ())), ()))
          else
            if (r3.1.1 == (6 : Int)) then
              if (r3.1.1 == (6 : Int)) then
                (F_spec_l1Next ((r3.2.1.1, (r3.2.1.2.1, ())), (4 : Int), ())).bind fun r59 =>
                (F_spec_l1Next ((r59.2.1.1, (r59.2.1.2.1, ())), (24 : Int), ())).bind fun r60 =>
                (F_spec_l1Next ((r60.2.1.1, (r60.2.1.2.1, ())), (16 : Int), ())).bind fun r61 =>
                let v62 := (IntKind.i64.wrap ((40 : Int) + r61.1.1))
                (F_spec_l1Next ((r61.2.1.1, (r61.2.1.2.1, ())), (6 : Int), ())).bind fun r63 =>
                let v64 := (IntKind.i64.wrap ((56 : Int) + r63.1.1))
                (F_spec_l1Pick ((r63.2.1.1, (r63.2.1.2.1, ())), [r60.1.1, v62, v64], ())).bind fun r65 =>
                some ((((14 : Int), (v2, (r59.1.1, (r65.1.1, ())))), ()), ((r65.2.1.1, (r65.2.1.2.1, ())), ()))
              else
                if (r3.1.1 == (8 : Int)) then
                  (F_spec_l1Pick ((r3.2.1.1, (r3.2.1.2.1, ())), [(16 : Int), (17 : Int), (18 : Int)], ())).bind fun r66 =>
                  (F_spec_l1Next ((r66.2.1.1, (r66.2.1.2.1, ())), (4 : Int), ())).bind fun r67 =>
                  (F_spec_l1Pick ((r67.2.1.1, (r67.2.1.2.1, ())), [(1 : Int), (2 : Int), (65535 : Int), (65533 : Int)], ())).bind fun r68 =>
                  some (((r66.1.1, (v2, (r67.1.1, (r68.1.1, ())))), ()), ((r68.2.1.1, (r68.2.1.2.1, ())), ()))
                else
                  if (r3.1.1 == (9 : Int)) then
                    (F_spec_l1Pick ((r3.2.1.1, (r3.2.1.2.1, ())), [(0 : Int), (1 : Int), (7 : Int), (9 : Int), (10 : Int), (5 : Int), (6 : Int)], ())).bind fun r69 =>
                    some ((((22 : Int), ((0 : Int), (v2, (r69.1.1, ())))), ()), ((r69.2.1.1, (r69.2.1.2.1, ())), ()))
                  else
                    if (r3.1.1 == (10 : Int)) then
                      (F_spec_l1Next ((r3.2.1.1, (r3.2.1.2.1, ())), (11 : Int), ())).bind fun r70 =>
                      some ((((21 : Int), (v2, ((0 : Int), (r70.1.1, ())))), ()), ((r70.2.1.1, (r70.2.1.2.1, ())), ()))
                    else
                      if (r3.1.1 == (11 : Int)) then
                        (F_spec_l1Pick ((r3.2.1.1, (r3.2.1.2.1, ())), [(0 : Int), (5 : Int)], ())).bind fun r71 =>
                        (F_spec_l1Pick ((r71.2.1.1, (r71.2.1.2.1, ())), [(65534 : Int), (65530 : Int), (2 : Int)], ())).bind fun r72 =>
                        some ((((19 : Int), (r71.1.1, ((0 : Int), (r72.1.1, ())))), ()), ((r72.2.1.1, (r72.2.1.2.1, ())), ()))
                      else
                        (F_spec_l2Ins ((r3.2.1.1, (r3.2.1.2.1, ())), ())).bind fun r73 =>
                        some ((r73.1.1, ()), ((r73.2.1.1, (r73.2.1.2.1, ())), ()))
            else
              if (r3.1.1 == (7 : Int)) then
                (F_spec_l1Next ((r3.2.1.1, (r3.2.1.2.1, ())), (4 : Int), ())).bind fun r74 =>
                (F_spec_l1Next ((r74.2.1.1, (r74.2.1.2.1, ())), (24 : Int), ())).bind fun r75 =>
                (F_spec_l1Next ((r75.2.1.1, (r75.2.1.2.1, ())), (16 : Int), ())).bind fun r76 =>
                let v77 := (IntKind.i64.wrap ((40 : Int) + r76.1.1))
                (F_spec_l1Next ((r76.2.1.1, (r76.2.1.2.1, ())), (6 : Int), ())).bind fun r78 =>
                let v79 := (IntKind.i64.wrap ((56 : Int) + r78.1.1))
                (F_spec_l1Pick ((r78.2.1.1, (r78.2.1.2.1, ())), [r75.1.1, v77, v79], ())).bind fun r80 =>
                some ((((14 : Int), (v2, (r74.1.1, (r80.1.1, ())))), ()), ((r80.2.1.1, (r80.2.1.2.1, ())), ()))
              else
                if (r3.1.1 == (8 : Int)) then
                  (F_spec_l1Pick ((r3.2.1.1, (r3.2.1.2.1, ())), [(16 : Int), (17 : Int), (18 : Int)], ())).bind fun r81 =>
                  (F_spec_l1Next ((r81.2.1.1, (r81.2.1.2.1, ())), (4 : Int), ())).bind fun r82 =>
                  (F_spec_l1Pick ((r82.2.1.1, (r82.2.1.2.1, ())), [(1 : Int), (2 : Int), (65535 : Int), (65533 : Int)], ())).bind fun r83 =>
                  some (((r81.1.1, (v2, (r82.1.1, (r83.1.1, ())))), ()), ((r83.2.1.1, (r83.2.1.2.1, ())), ()))
                else
                  if (r3.1.1 == (9 : Int)) then
                    (F_spec_l1Pick ((r3.2.1.1, (r3.2.1.2.1, ())), [(0 : Int), (1 : Int), (7 : Int), (9 : Int), (10 : Int), (5 : Int), (6 : Int)], ())).bind fun r84 =>
                    some ((((22 : Int), ((0 : Int), (v2, (r84.1.1, ())))), ()), ((r84.2.1.1, (r84.2.1.2.1, ())), ()))
                  else
                    if (r3.1.1 == (10 : Int)) then
                      (F_spec_l1Next ((r3.2.1.1, (r3.2.1.2.1, ())), (11 : Int), ())).bind fun r85 =>
                      some ((((21 : Int), (v2, ((0 : Int), (r85.1.1, ())))), ()), ((r85.2.1.1, (r85.2.1.2.1, ())), ()))
                    else
                      if (r3.1.1 == (11 : Int)) then
                        (F_spec_l1Pick ((r3.2.1.1, (r3.2.1.2.1, ())), [(0 : Int), (5 : Int)], ())).bind fun r86 =>
                        (F_spec_l1Pick ((r86.2.1.1, (r86.2.1.2.1, ())), [(65534 : Int), (65530 : Int), (2 : Int)], ())).bind fun r87 =>
                        some ((((19 : Int), (r86.1.1, ((0 : Int), (r87.1.1, ())))), ()), ((r87.2.1.1, (r87.2.1.2.1, ())), ()))
                      else
                        (F_spec_l2Ins ((r3.2.1.1, (r3.2.1.2.1, ())), ())).bind fun r88 =>
                        some ((r88.1.1, ()), ((r88.2.1.1, (r88.2.1.2.1, ())), ()))
  else
    if (r3.1.1 == (1 : Int)) then
      if (r3.1.1 == (1 : Int)) then
        (F_spec_l1Next ((r3.2.1.1, (r3.2.1.2.1, ())), (4 : Int), ())).bind fun r89 =>
        (F_spec_l1Next ((r89.2.1.1, (r89.2.1.2.1, ())), (9 : Int), ())).bind fun r90 =>
        (F_spec_l1Next ((r90.2.1.1, (r90.2.1.2.1, ())), (8 : Int), ())).bind fun r91 =>
        let v92 := (IntKind.i64.wrap ((56 : Int) + r91.1.1))
        (F_spec_l1Next ((r91.2.1.1, (r91.2.1.2.1, ())), (16 : Int), ())).bind fun r93 =>
        let v94 := (IntKind.i64.wrap ((40 : Int) + r93.1.1))
        (F_spec_l1Pick ((r93.2.1.1, (r93.2.1.2.1, ())), [r90.1.1, v92, v94, (65535 : Int)], ())).bind fun r95 =>
        some ((((12 : Int), (v2, (r89.1.1, (r95.1.1, ())))), ()), ((r95.2.1.1, (r95.2.1.2.1, ())), ()))
      else
        if (r3.1.1 == (3 : Int)) then
          (F_spec_l1Next ((r3.2.1.1, (r3.2.1.2.1, ())), (11 : Int), ())).bind fun r96 =>
          let v97 := (IntKind.i64.wrap ((1 : Int) + r96.1.1))
          (F_spec_l1Next ((r96.2.1.1, (r96.2.1.2.1, ())), (4 : Int), ())).bind fun r98 =>
          (F_spec_l1Next ((r98.2.1.1, (r98.2.1.2.1, ())), (4 : Int), ())).bind fun r99 =>
          some (((v97, (v2, (r98.1.1, (r99.1.1, ())))), ()), ((r99.2.1.1, (r99.2.1.2.1, ())), ()))
        else
          if (r3.1.1 == (4 : Int)) then
            if (r3.1.1 == (4 : Int)) then
              (F_spec_l1Next ((r3.2.1.1, (r3.2.1.2.1, ())), (4 : Int), ())).bind fun r100 =>
              (F_spec_l1Next ((r100.2.1.1, (r100.2.1.2.1, ())), (24 : Int), ())).bind fun r101 =>
              (F_spec_l1Next ((r101.2.1.1, (r101.2.1.2.1, ())), (16 : Int), ())).bind fun r102 =>
              let v103 := (IntKind.i64.wrap ((40 : Int) + r102.1.1))
              (F_spec_l1Next ((r102.2.1.1, (r102.2.1.2.1, ())), (6 : Int), ())).bind fun r104 =>
              let v105 := (IntKind.i64.wrap ((56 : Int) + r104.1.1))
              (F_spec_l1Pick ((r104.2.1.1, (r104.2.1.2.1, ())), [r101.1.1, v103, v105], ())).bind fun r106 =>
              some ((((15 : Int), (v2, (r100.1.1, (r106.1.1, ())))), ()), ((r106.2.1.1, (r106.2.1.2.1, ())), ()))
            else
              if (r3.1.1 == (6 : Int)) then
                if (r3.1.1 == (6 : Int)) then
                  (F_spec_l1Next ((r3.2.1.1, (r3.2.1.2.1, ())), (4 : Int), ())).bind fun r107 =>
                  (F_spec_l1Next ((r107.2.1.1, (r107.2.1.2.1, ())), (24 : Int), ())).bind fun r108 =>
                  (F_spec_l1Next ((r108.2.1.1, (r108.2.1.2.1, ())), (16 : Int), ())).bind fun r109 =>
                  let v110 := (IntKind.i64.wrap ((40 : Int) + r109.1.1))
                  (F_spec_l1Next ((r109.2.1.1, (r109.2.1.2.1, ())), (6 : Int), ())).bind fun r111 =>
                  let v112 := (IntKind.i64.wrap ((56 : Int) + r111.1.1))
                  (F_spec_l1Pick ((r111.2.1.1, (r111.2.1.2.1, ())), [r108.1.1, v110, v112], ())).bind fun r113 =>
                  some ((((14 : Int), (v2, (r107.1.1, (r113.1.1, ())))), ()), ((r113.2.1.1, (r113.2.1.2.1, ())), ()))
                else
                  if (r3.1.1 == (8 : Int)) then
                    (F_spec_l1Pick ((r3.2.1.1, (r3.2.1.2.1, ())), [(16 : Int), (17 : Int), (18 : Int)], ())).bind fun r114 =>
                    (F_spec_l1Next ((r114.2.1.1, (r114.2.1.2.1, ())), (4 : Int), ())).bind fun r115 =>
                    (F_spec_l1Pick ((r115.2.1.1, (r115.2.1.2.1, ())), [(1 : Int), (2 : Int), (65535 : Int), (65533 : Int)], ())).bind fun r116 =>
                    some (((r114.1.1, (v2, (r115.1.1, (r116.1.1, ())))), ()), ((r116.2.1.1, (r116.2.1.2.1, ())), ()))
                  else
                    if (r3.1.1 == (9 : Int)) then
                      (F_spec_l1Pick ((r3.2.1.1, (r3.2.1.2.1, ())), [(0 : Int), (1 : Int), (7 : Int), (9 : Int), (10 : Int), (5 : Int), (6 : Int)], ())).bind fun r117 =>
                      some ((((22 : Int), ((0 : Int), (v2, (r117.1.1, ())))), ()), ((r117.2.1.1, (r117.2.1.2.1, ())), ()))
                    else
                      if (r3.1.1 == (10 : Int)) then
                        (F_spec_l1Next ((r3.2.1.1, (r3.2.1.2.1, ())), (11 : Int), ())).bind fun r118 =>
                        some ((((21 : Int), (v2, ((0 : Int), (r118.1.1, ())))), ()), ((r118.2.1.1, (r118.2.1.2.1, ())), ()))
                      else
                        if (r3.1.1 == (11 : Int)) then
                          (F_spec_l1Pick ((r3.2.1.1, (r3.2.1.2.1, ())), [(0 : Int), (5 : Int)], ())).bind fun r119 =>
                          (F_spec_l1Pick ((r119.2.1.1, (r119.2.1.2.1, ())), [(65534 : Int), (65530 : Int), (2 : Int)], ())).bind fun r120 =>
                          some ((((19 : Int), (r119.1.1, ((0 : Int), (r120.1.1, ())))), ()), ((r120.2.1.1, (r120.2.1.2.1, ())), ()))
                        else
                          (F_spec_l2Ins ((r3.2.1.1, (r3.2.1.2.1, ())), ())).bind fun r121 =>
                          some ((r121.1.1, ()), ((r121.2.1.1, (r121.2.1.2.1, ())), ()))
              else
                if (r3.1.1 == (7 : Int)) then
                  (F_spec_l1Next ((r3.2.1.1, (r3.2.1.2.1, ())), (4 : Int), ())).bind fun r122 =>
                  (F_spec_l1Next ((r122.2.1.1, (r122.2.1.2.1, ())), (24 : Int), ())).bind fun r123 =>
                  (F_spec_l1Next ((r123.2.1.1, (r123.2.1.2.1, ())), (16 : Int), ())).bind fun r124 =>
                  let v125 := (IntKind.i64.wrap ((40 : Int) + r124.1.1))
                  (F_spec_l1Next ((r124.2.1.1, (r124.2.1.2.1, ())), (6 : Int), ())).bind fun r126 =>
                  let v127 := (IntKind.i64.wrap ((56 : Int) + r126.1.1))
                  (F_spec_l1Pick ((r126.2.1.1, (r126.2.1.2.1, ())), [r123.1.1, v125, v127], ())).bind fun r128 =>
                  some ((((14 : Int), (v2, (r122.1.1, (r128.1.1, ())))), ()), ((r128.2.1.1, (r128.2.1.2.1, ())), ()))
                else
                  if (r3.1.1 == (8 : Int)) then
                    (F_spec_l1Pick ((r3.2.1.1, (r3.2.1.2.1, ())), [(16 : Int), (17 : Int), (18 : Int)], ())).bind fun r129 =>
                    (F_spec_l1Next ((r129.2.1.1, (r129.2.1.2.1, ())), (4 : Int), ())).bind fun r130 =>
                    (F_spec_l1Pick ((r130.2.1.1, (r130.2.1.2.1, ())), [(1 : Int), (2 : Int), (65535 : Int), (65533 : Int)], ())).bind fun r131 =>
                    some (((r129.1.1, (v2, (r130.1.1, (r131.1.1, ())))), ()), ((r131.2.1.1, (r131.2.1.2.1, ())), ()))
                  else
                    if (r3.1.1 == (9 : Int)) then
                      (F_spec_l1Pick ((r3.2.1.1, (r3.2.1.2.1, ())), [(0 : Int), (1 : Int), (7 : Int), (9 : Int), (10 : Int), (5 : Int), (6 : Int)], ())).bind fun r132 =>
                      some ((((22 : Int), ((0 : Int), (v2, (r132.1.1, ())))), ()), ((r132.2.1.1, (r132.2.1.2.1, ())), ()))
                    else
                      if (r3.1.1 == (10 : Int)) then
                        (F_spec_l1Next ((r3.2.1.1, (r3.2.1.2.1, ())), (11 : Int), ())).bind fun r133 =>
                        some ((((21 : Int), (v2, ((0 : Int), (r133.1.1, ())))), ()), ((r133.2.1.1, (r133.2.1.2.1, ())), ()))
                      else
                        if (r3.1.1 == (11 : Int)) then
                          (F_spec_l1Pick ((r3.2.1.1, (r3.2.1.2.1, ())), [(0 : Int), (5 : Int)], ())).bind fun r134 =>
                          (F_spec_l1Pick ((r134.2.1.1, (r134.2.1.2.1, ())), [(65534 : Int), (65530 : Int), (2 : Int)], ())).bind fun r135 =>
                          some ((((19 : Int), (r134.1.1, ((0 : Int), (r135.1.1, ())))), ()), ((r135.2.1.1, (r135.2.1.2.1, ())), ()))
                        else
                          (F_spec_l2Ins ((r3.2.1.1, (r3.2.1.2.1, ())), ())).bind fun r136 =>
                          some ((r136.1.1, ()), ((r136.2.1.1, (r136.2.1.2.1, ())), ()))
          else
            if (r3.1.1 == (5 : Int)) then
              (F_spec_l1Next ((r3.2.1.1, (r3.2.1.2.1, ())), (4 : Int), ())).bind fun r137 =>
              (F_spec_l1Next ((r137.2.1.1, (r137.2.1.2.1, ())), (24 : Int), ())).bind fun r138 =>
              (F_spec_l1Next ((r138.2.1.1, (r138.2.1.2.1, ())), (16 : Int), ())).bind fun r139 =>
              let v140 := (IntKind.i64.wrap ((40 : Int) + r139.1.1))
              (F_spec_l1Next ((r139.2.1.1, (r139.2.1.2.1, ())), (6 : Int), ())).bind fun r141 =>
              let v142 := (IntKind.i64.wrap ((56 : Int) + r141.1.1))
              (F_spec_l1Pick ((r141.2.1.1, (r141.2.1.2.1, ())), [r138.1.1, v140, v142], ())).bind fun r143 =>
              some ((((15 : Int), (v2, (r137.1.1, (r143.1.1, ())))), ()), ((r143.2.1.1, (r143.2.1.2.1, ())), ()))
            else
              if (r3.1.1 == (6 : Int)) then
                if (r3.1.1 == (6 : Int)) then
                  (F_spec_l1Next ((r3.2.1.1, (r3.2.1.2.1, ())), (4 : Int), ())).bind fun r144 =>
                  (F_spec_l1Next ((r144.2.1.1, (r144.2.1.2.1, ())), (24 : Int), ())).bind fun r145 =>
                  (F_spec_l1Next ((r145.2.1.1, (r145.2.1.2.1, ())), (16 : Int), ())).bind fun r146 =>
                  let v147 := (IntKind.i64.wrap ((40 : Int) + r146.1.1))
                  (F_spec_l1Next ((r146.2.1.1, (r146.2.1.2.1, ())), (6 : Int), ())).bind fun r148 =>
                  let v149 := (IntKind.i64.wrap ((56 : Int) + r148.1.1))
                  (F_spec_l1Pick ((r148.2.1.1, (r148.2.1.2.1, ())), [r145.1.1, v147, v149], ())).bind fun r150 =>
                  some ((((14 : Int), (v2, (r144.1.1, (r150.1.1, ())))), ()), ((r150.2.1.1, (r150.2.1.2.1, ())), ()))
                else
                  if (r3.1.1 == (8 : Int)) then
                    (F_spec_l1Pick ((r3.2.1.1, (r3.2.1.2.1, ())), [(16 : Int), (17 : Int), (18 : Int)], ())).bind fun r151 =>
                    (F_spec_l1Next ((r151.2.1.1, (r151.2.1.2.1, ())), (4 : Int), ())).bind fun r152 =>
                    (F_spec_l1Pick ((r152.2.1.1, (r152.2.1.2.1, ())), [(1 : Int), (2 : Int), (65535 : Int), (65533 : Int)], ())).bind fun r153 =>
                    some (((r151.1.1, (v2, (r152.1.1, (r153.1.1, ())))), ()), ((r153.2.1.1, (r153.2.1.2.1, ())), ()))
                  else
                    if (r3.1.1 == (9 : Int)) then
                      (F_spec_l1Pick ((r3.2.1.1, (r3.2.1.2.1, ())), [(0 : Int), (1 : Int), (7 : Int), (9 : Int), (10 : Int), (5 : Int), (6 : Int)], ())).bind fun r154 =>
                      some ((((22 : Int), ((0 : Int), (v2, (r154.1.1, ())))), ()), ((r154.2.1.1, (r154.2.1.2.1, ())), ()))
                    else
                      if (r3.1.1 == (10 : Int)) then
                        (F_spec_l1Next ((r3.2.1.1, (r3.2.1.2.1, ())), (11 : Int), ())).bind fun r155 =>
                        some ((((21 : Int), (v2, ((0 : Int), (r155.1.1, ())))), ()), ((r155.2.1.1, (r155.2.1.2.1, ())), ()))
                      else
                        if (r3.1.1 == (11 : Int)) then
                          (F_spec_l1Pick ((r3.2.1.1, (r3.2.1.2.1, ())), [(0 : Int), (5 : Int)], ())).bind fun r156 =>
                          (F_spec_l1Pick ((r156.2.1.1, (r156.2.1.2.1, ())), [(65534 : Int), (65530 : Int), (2 : Int)], ())).bind fun r157 =>
                          some ((((19 : Int), (r156.1.1, ((0 : Int), (r157.1.1, ())))), ()), ((r157.2.1.1, (r157.2.1.2.1, ())), ()))
                        else
                          (F_spec_l2Ins ((r3.2.1.1, (r3.2.1.2.1, ())), ())).bind fun r158 =>
                          some ((r158.1.1, ()), ((r158.2.1.1, (r158.2.1.2.1, ())), ()))
              else
                if (r3.1.1 == (7 : Int)) then
                  (F_spec_l1Next ((r3.2.1.1, (r3.2.1.2.1, ())), (4 : Int), ())).bind fun r159 =>
                  (F_spec_l1Next ((r159.2.1.1, (r159.2.1.2.1, ())), (24 : Int), ())).bind fun r160 =>
                  (F_spec_l1Next ((r160.2.1.1, (r160.2.1.2.1, ())), (16 : Int), ())).bind fun r161 =>
                  let v162 := (IntKind.i64.wrap ((40 : Int) + r161.1.1))
                  (F_spec_l1Next ((r161.2.1.1, (r161.2.1.2.1, ())), (6 : Int), ())).bind fun r163 =>
                  let v164 := (IntKind.i64.wrap ((56 : Int) + r163.1.1))
                  (F_spec_l1Pick ((r163.2.1.1, (r163.2.1.2.1, ())), [r160.1.1, v162, v164], ())).bind fun r165 =>
                  some ((((14 : Int), (v2, (r159.1.1, (r165.1.1, ())))), ()), ((r165.2.1.1, (r165.2.1.2.1, ())), ()))
                else
                  if (r3.1.1 == (8 : Int)) then
                    (F_spec_l1Pick ((r3.2.1.1, (r3.2.1.2.1, ())), [(16 : Int), (17 : Int), (18 : Int)], ())).bind fun r166 =>
                    (F_spec_l1Next ((r166.2.1.1, (r166.2.1.2.1, ())), (4 : Int), ())).bind fun r167 =>
                    (F_spec_l1Pick ((r167.2.1.1, (r167.2.1.2.1, ())), [(1 : Int), (2 : Int), (65535 : Int), (65533 : Int)], ())).bind fun r168 =>
                    some (((r166.1.1, (v2, (r167.1.1, (r168.1.1, ())))), ()), ((r168.2.1.1, (r168.2.1.2.1, ())), ()))
                  else
                    if (r3.1.1 == (9 : Int)) then
                      (F_spec_l1Pick ((r3.2.1.1, (r3.2.1.2.1, ())), [(0 : Int), (1 : Int), (7 : Int), (9 : Int), (10 : Int), (5 : Int), (6 : Int)], ())).bind fun r169 =>
                      some ((((22 : Int), ((0 : Int), (v2, (r169.1.1, ())))), ()), ((r169.2.1.1, (r169.2.1.2.1, ())), ()))
                    else
                      if (r3.1.1 == (10 : Int)) then
                        (F_spec_l1Next ((r3.2.1.1, (r3.2.1.2.1, ())), (11 : Int), ())).bind fun r170 =>
                        some ((((21 : Int), (v2, ((0 : Int), (r170.1.1, ())))), ()), ((r170.2.1.1, (r170.2.1.2.1, ())), ()))
                      else
                        if (r3.1.1 == (11 : Int)) then
                          (F_spec_l1Pick ((r3.2.1.1, (r3.2.1.2.1, ())), [(0 : Int), (5 : Int)], ())).bind fun r171 =>
                          (F_spec_l1Pick ((r171.2.1.1, (r171.2.1.2.1, ())), [(65534 : Int), (65530 : Int), (2 : Int)], ())).bind fun r172 =>
                          some ((((19 : Int), (r171.1.1, ((0 : Int), (r172.1.1, ())))), ()), ((r172.2.1.1, (r172.2.1.2.1, ())), ()))
                        else
                          (F_spec_l2Ins ((r3.2.1.1, (r3.2.1.2.1, ())), ())).bind fun r173 =>
                          some ((r173.1.1, ()), ((r173.2.1.1, (r173.2.1.2.1, ())), ()))
    else
      if (r3.1.1 == (2 : Int)) then
        (F_spec_l1Next ((r3.2.1.1, (r3.2.1.2.1, ())), (4 : Int), ())).bind fun r174 =>
        (F_spec_l1Next ((r174.2.1.1, (r174.2.1.2.1, ())), (9 : Int), ())).bind fun r175 =>
        (F_spec_l1Next ((r175.2.1.1, (r175.2.1.2.1, ())), (8 : Int), ())).bind fun r176 =>
        let v177 := (IntKind.i64.wrap ((56 : Int) + r176.1.1))
        (F_spec_l1Next ((r176.2.1.1, (r176.2.1.2.1, ())), (16 : Int), ())).bind fun r178 =>
        let v179 := (IntKind.i64.wrap ((40 : Int) + r178.1.1))
        (F_spec_l1Pick ((r178.2.1.1, (r178.2.1.2.1, ())), [r175.1.1, v177, v179, (65535 : Int)], ())).bind fun r180 =>
        some ((((12 : Int), (v2, (r174.1.1, (r180.1.1, ())))), ()), ((r180.2.1.1, (r180.2.1.2.1, ())), ()))
      else
        if (r3.1.1 == (3 : Int)) then
          (F_spec_l1Next ((r3.2.1.1, (r3.2.1.2.1, ())), (11 : Int), ())).bind fun r181 =>
          let v182 := (IntKind.i64.wrap ((1 : Int) + r181.1.1))
          (F_spec_l1Next ((r181.2.1.1, (r181.2.1.2.1, ())), (4 : Int), ())).bind fun r183 =>
          (F_spec_l1Next ((r183.2.1.1, (r183.2.1.2.1, ())), (4 : Int), ())).bind fun r184 =>
          some (((v182, (v2, (r183.1.1, (r184.1.1, ())))), ()), ((r184.2.1.1, (r184.2.1.2.1, ())), ()))
        else
          if (r3.1.1 == (4 : Int)) then
            if (r3.1.1 == (4 : Int)) then
              (F_spec_l1Next ((r3.2.1.1, (r3.2.1.2.1, ())), (4 : Int), ())).bind fun r185 =>
              (F_spec_l1Next ((r185.2.1.1, (r185.2.1.2.1, ())), (24 : Int), ())).bind fun r186 =>
              (F_spec_l1Next ((r186.2.1.1, (r186.2.1.2.1, ())), (16 : Int), ())).bind fun r187 =>
              let v188 := (IntKind.i64.wrap ((40 : Int) + r187.1.1))
              (F_spec_l1Next ((r187.2.1.1, (r187.2.1.2.1, ())), (6 : Int), ())).bind fun r189 =>
              let v190 := (IntKind.i64.wrap ((56 : Int) + r189.1.1))
              (F_spec_l1Pick ((r189.2.1.1, (r189.2.1.2.1, ())), [r186.1.1, v188, v190], ())).bind fun r191 =>
              some ((((15 : Int), (v2, (r185.1.1, (r191.1.1, ())))), ()), ((r191.2.1.1, (r191.2.1.2.1, ())), ()))
            else
              if (r3.1.1 == (6 : Int)) then
                if (r3.1.1 == (6 : Int)) then
                  (F_spec_l1Next ((r3.2.1.1, (r3.2.1.2.1, ())), (4 : Int), ())).bind fun r192 =>
                  (F_spec_l1Next ((r192.2.1.1, (r192.2.1.2.1, ())), (24 : Int), ())).bind fun r193 =>
                  (F_spec_l1Next ((r193.2.1.1, (r193.2.1.2.1, ())), (16 : Int), ())).bind fun r194 =>
                  let v195 := (IntKind.i64.wrap ((40 : Int) + r194.1.1))
                  (F_spec_l1Next ((r194.2.1.1, (r194.2.1.2.1, ())), (6 : Int), ())).bind fun r196 =>
                  let v197 := (IntKind.i64.wrap ((56 : Int) + r196.1.1))
                  (F_spec_l1Pick ((r196.2.1.1, (r196.2.1.2.1, ())), [r193.1.1, v195, v197], ())).bind fun r198 =>
                  some ((((14 : Int), (v2, (r192.1.1, (r198.1.1, ())))), ()), ((r198.2.1.1, (r198.2.1.2.1, ())), ()))
                else
                  if (r3.1.1 == (8 : Int)) then
                    (F_spec_l1Pick ((r3.2.1.1, (r3.2.1.2.1, ())), [(16 : Int), (17 : Int), (18 : Int)], ())).bind fun r199 =>
                    (F_spec_l1Next ((r199.2.1.1, (r199.2.1.2.1, ())), (4 : Int), ())).bind fun r200 =>
                    (F_spec_l1Pick ((r200.2.1.1, (r200.2.1.2.1, ())), [(1 : Int), (2 : Int), (65535 : Int), (65533 : Int)], ())).bind fun r201 =>
                    some (((r199.1.1, (v2, (r200.1.1, (r201.1.1, ())))), ()), ((r201.2.1.1, (r201.2.1.2.1, ())), ()))
                  else
                    if (r3.1.1 == (9 : Int)) then
                      (F_spec_l1Pick ((r3.2.1.1, (r3.2.1.2.1, ())), [(0 : Int), (1 : Int), (7 : Int), (9 : Int), (10 : Int), (5 : Int), (6 : Int)], ())).bind fun r202 =>
                      some ((((22 : Int), ((0 : Int), (v2, (r202.1.1, ())))), ()), ((r202.2.1.1, (r202.2.1.2.1, ())), ()))
                    else
                      if (r3.1.1 == (10 : Int)) then
                        (F_spec_l1Next ((r3.2.1.1, (r3.2.1.2.1, ())), (11 : Int), ())).bind fun r203 =>
                        some ((((21 : Int), (v2, ((0 : Int), (r203.1.1, ())))), ()), ((r203.2.1.1, (r203.2.1.2.1, ())), ()))
                      else
                        if (r3.1.1 == (11 : Int)) then
                          (F_spec_l1Pick ((r3.2.1.1, (r3.2.1.2.1, ())), [(0 : Int), (5 : Int)], ())).bind fun r204 =>
                          (F_spec_l1Pick ((r204.2.1.1, (r204.2.1.2.1, ())), [(65534 : Int), (65530 : Int), (2 : Int)], ())).bind fun r205 =>
                          some ((((19 : Int), (r204.1.1, ((0 : Int), (r205.1.1, ())))), ()), ((r205.2.1.1, (r205.2.1.2.1, ())), ()))
                        else
                          (F_spec_l2Ins ((r3.2.1.1, (r3.2.1.2.1, ())), ())).bind fun r206 =>
                          some ((r206.1.1, ()), ((r206.2.1.1, (r206.2.1.2.1, ())), ()))
              else
                if (r3.1.1 == (7 : Int)) then
                  (F_spec_l1Next ((r3.2.1.1, (r3.2.1.2.1, ())), (4 : Int), ())).bind fun r207 =>
                  (F_spec_l1Next ((r207.2.1.1, (r207.2.1.2.1, ())), (24 : Int), ())).bind fun r208 =>
                  (F_spec_l1Next ((r208.2.1.1, (r208.2.1.2.1, ())), (16 : Int), ())).bind fun r209 =>
                  let v210 := (IntKind.i64.wrap ((40 : Int) + r209.1.1))
                  (F_spec_l1Next ((r209.2.1.1, (r209.2.1.2.1, ())), (6 : Int), ())).bind fun r211 =>
                  let v212 := (IntKind.i64.wrap ((56 : Int) + r211.1.1))
                  (F_spec_l1Pick ((r211.2.1.1, (r211.2.1.2.1, ())), [r208.1.1, v210, v212], ())).bind fun r213 =>
                  some ((((14 : Int), (v2, (r207.1.1, (r213.1.1, ())))), ()), ((r213.2.1.1, (r213.2.1.2.1, ())), ()))
                else
                  if (r3.1.1 == (8 : Int)) then
                    (F_spec_l1Pick ((r3.2.1.1, (r3.2.1.2.1, ())), [(16 : Int), (17 : Int), (18 : Int)], ())).bind fun r214 =>
                    (F_spec_l1Next ((r214.2.1.1, (r214.2.1.2.1, ())), (4 : Int), ())).bind fun r215 =>
                    (F_spec_l1Pick ((r215.2.1.1, (r215.2.1.2.1, ())), [(1 : Int), (2 : Int), (65535 : Int), (65533 : Int)], ())).bind fun r216 =>
                    some (((r214.1.1, (v2, (r215.1.1, (r216.1.1, ())))), ()), ((r216.2.1.1, (r216.2.1.2.1, ())), ()))
                  else
                    if (r3.1.1 == (9 : Int)) then
                      (F_spec_l1Pick ((r3.2.1.1, (r3.2.1.2.1, ())), [(0 : Int), (1 : Int), (7 : Int), (9 : Int), (10 : Int), (5 : Int), (6 : Int)], ())).bind fun r217 =>
                      some ((((22 : Int), ((0 : Int), (v2, (r217.1.1, ())))), ()), ((r217.2.1.1, (r217.2.1.2.1, ())), ()))
                    else
                      if (r3.1.1 == (10 : Int)) then
                        (F_spec_l1Next ((r3.2.1.1, (r3.2.1.2.1, ())), (11 : Int), ())).bind fun r218 =>
                        some ((((21 : Int), (v2, ((0 : Int), (r218.1.1, ())))), ()), ((r218.2.1.1, (r218.2.1.2.1, ())), ()))
                      else
                        if (r3.1.1 == (11 : Int)) then
                          (F_spec_l1Pick ((r3.2.1.1, (r3.2.1.2.1, ())), [(0 : Int), (5 : Int)], ())).bind fun r219 =>
                          (F_spec_l1Pick ((r219.2.1.1, (r219.2.1.2.1, ())), [(65534 : Int), (65530 : Int), (2 : Int)], ())).bind fun r220 =>
                          some ((((19 : Int), (r219.1.1, ((0 : Int), (r220.1.1, ())))), ()), ((r220.2.1.1, (r220.2.1.2.1, ())), ()))
                        else
                          (F_spec_l2Ins ((r3.2.1.1, (r3.2.1.2.1, ())), ())).bind fun r221 =>
                          some ((r221.1.1, ()), ((r221.2.1.1, (r221.2.1.2.1, ())), ()))
          else
            if (r3.1.1 == (5 : Int)) then
              (F_spec_l1Next ((r3.2.1.1, (r3.2.1.2.1, ())), (4 : Int), ())).bind fun r222 =>
              (F_spec_l1Next ((r222.2.1.1, (r222.2.1.2.1, ())), (24 : Int), ())).bind fun r223 =>
              (F_spec_l1Next ((r223.2.1.1, (r223.2.1.2.1, ())), (16 : Int), ())).bind fun r224 =>
              let v225 := (IntKind.i64.wrap ((40 : Int) + r224.1.1))
              (F_spec_l1Next ((r224.2.1.1, (r224.2.1.2.1, ())), (6 : Int), ())).bind fun r226 =>
              let v227 := (IntKind.i64.wrap ((56 : Int) + r226.1.1))
              (F_spec_l1Pick ((r226.2.1.1, (r226.2.1.2.1, ())), [r223.1.1, v225, v227], ())).bind fun r228 =>
              some ((((15 : Int), (v2, (r222.1.1, (r228.1.1, ())))), ()), ((r228.2.1.1, (r228.2.1.2.1, ())), ()))
            else
              if (r3.1.1 == (6 : Int)) then
                if (r3.1.1 == (6 : Int)) then
                  (F_spec_l1Next ((r3.2.1.1, (r3.2.1.2.1, ())), (4 : Int), ())).bind fun r229 =>
                  (F_spec_l1Next ((r229.2.1.1, (r229.2.1.2.1, ())), (24 : Int), ())).bind fun r230 =>
                  (F_spec_l1Next ((r230.2.1.1, (r230.2.1.2.1, ())), (16 : Int), ())).bind fun r231 =>
                  let v232 := (IntKind.i64.wrap ((40 : Int) + r231.1.1))
                  (F_spec_l1Next ((r231.2.1.1, (r231.2.1.2.1, ())), (6 : Int), ())).bind fun r233 =>
                  let v234 := (IntKind.i64.wrap ((56 : Int) + r233.1.1))
                  (F_spec_l1Pick ((r233.2.1.1, (r233.2.1.2.1, ())), [r230.1.1, v232, v234], ())).bind fun r235 =>
                  some ((((14 : Int), (v2, (r229.1.1, (r235.1.1, ())))), ()), ((r235.2.1.1, (r235.2.1.2.1, ())), ()))
                else
                  if (r3.1.1 == (8 : Int)) then
                    (F_spec_l1Pick ((r3.2.1.1, (r3.2.1.2.1, ())), [(16 : Int), (17 : Int), (18 : Int)], ())).bind fun r236 =>
                    (F_spec_l1Next ((r236.2.1.1, (r236.2.1.2.1, ())), (4 : Int), ())).bind fun r237 =>
                    (F_spec_l1Pick ((r237.2.1.1, (r237.2.1.2.1, ())), [(1 : Int), (2 : Int), (65535 : Int), (65533 : Int)], ())).bind fun r238 =>
                    some (((r236.1.1, (v2, (r237.1.1, (r238.1.1, ())))), ()), ((r238.2.1.1, (r238.2.1.2.1, ())), ()))
                  else
                    if (r3.1.1 == (9 : Int)) then
                      (F_spec_l1Pick ((r3.2.1.1, (r3.2.1.2.1, ())), [(0 : Int), (1 : Int), (7 : Int), (9 : Int), (10 : Int), (5 : Int), (6 : Int)], ())).bind fun r239 =>
                      some ((((22 : Int), ((0 : Int), (v2, (r239.1.1, ())))), ()), ((r239.2.1.1, (r239.2.1.2.1, ())), ()))
                    else
                      if (r3.1.1 == (10 : Int)) then
                        (F_spec_l1Next ((r3.2.1.1, (r3.2.1.2.1, ())), (11 : Int), ())).bind fun r240 =>
                        some ((((21 : Int), (v2, ((0 : Int), (r240.1.1, ())))), ()), ((r240.2.1.1, (r240.2.1.2.1, ())), ()))
                      else
                        if (r3.1.1 == (11 : Int)) then
                          (F_spec_l1Pick ((r3.2.1.1, (r3.2.1.2.1, ())), [(0 : Int), (5 : Int)], ())).bind fun r241 =>
                          (F_spec_l1Pick ((r241.2.1.1, (r241.2.1.2.1, ())), [(65534 : Int), (65530 : Int), (2 : Int)], ())).bind fun r242 =>
                          some ((((19 : Int), (r241.1.1, ((0 : Int), (r242.1.1, ())))), ()), ((r242.2.1.1, (r242.2.1.2.1, ())), ()))
                        else
                          (F_spec_l2Ins ((r3.2.1.1, (r3.2.1.2.1, ())), ())).bind fun r243 =>
                          some ((r243.1.1, ()), ((r243.2.1.1, (r243.2.1.2.1, ())), ()))
              else
                if (r3.1.1 == (7 : Int)) then
                  (F_spec_l1Next ((r3.2.1.1, (r3.2.1.2.1, ())), (4 : Int), ())).bind fun r244 =>
                  (F_spec_l1Next ((r244.2.1.1, (r244.2.1.2.1, ())), (24 : Int), ())).bind fun r245 =>
                  (F_spec_l1Next ((r245.2.1.1, (r245.2.1.2.1, ())), (16 : Int), ())).bind fun r246 =>
                  let v247 := (IntKind.i64.wrap ((40 : Int) + r246.1.1))
                  (F_spec_l1Next ((r246.2.1.1, (r246.2.1.2.1, ())), (6 : Int), ())).bind fun r248 =>
                  let v249 := (IntKind.i64.wrap ((56 : Int) + r248.1.1))
                  (F_spec_l1Pick ((r248.2.1.1, (r248.2.1.2.1, ())), [r245.1.1, v247, v249], ())).bind fun r250 =>
                  some ((((14 : Int), (v2, (r244.1.1, (r250.1.1, ())))), ()), ((r250.2.1.1, (r250.2.1.2.1, ())), ()))
                else
                  if (r3.1.1 == (8 : Int)) then
                    (F_spec_l1Pick ((r3.2.1.1, (r3.2.1.2.1, ())), [(16 : Int), (17 : Int), (18 : Int)], ())).bind fun r251 =>
                    (F_spec_l1Next ((r251.2.1.1, (r251.2.1.2.1, ())), (4 : Int), ())).bind fun r252 =>
                    (F_spec_l1Pick ((r252.2.1.1, (r252.2.1.2.1, ())), [(1 : Int), (2 : Int), (65535 : Int), (65533 : Int)], ())).bind fun r253 =>
                    some (((r251.1.1, (v2, (r252.1.1, (r253.1.1, ())))), ()), ((r253.2.1.1, (r253.2.1.2.1, ())), ()))
                  else
                    if (r3.1.1 == (9 : Int)) then
                      (F_spec_l1Pick ((r3.2.1.1, (r3.2.1.2.1, ())), [(0 : Int), (1 : Int), (7 : Int), (9 : Int), (10 : Int), (5 : Int), (6 : Int)], ())).bind fun r254 =>
                      some ((((22 : Int), ((0 : Int), (v2, (r254.1.1, ())))), ()), ((r254.2.1.1, (r254.2.1.2.1, ())), ()))
                    else
                      if (r3.1.1 == (10 : Int)) then
                        (F_spec_l1Next ((r3.2.1.1, (r3.2.1.2.1, ())), (11 : Int), ())).bind fun r255 =>
                        some ((((21 : Int), (v2, ((0 : Int), (r255.1.1, ())))), ()), ((r255.2.1.1, (r255.2.1.2.1, ())), ()))
                      else
                        if (r3.1.1 == (11 : Int)) then
                          (F_spec_l1Pick ((r3.2.1.1, (r3.2.1.2.1, ())), [(0 : Int), (5 : Int)], ())).bind fun r256 =>
                          (F_spec_l1Pick ((r256.2.1.1, (r256.2.1.2.1, ())), [(65534 : Int), (65530 : Int), (2 : Int)], ())).bind fun r257 =>
                          some ((((19 : Int), (r256.1.1, ((0 : Int), (r257.1.1, ())))), ()), ((r257.2.1.1, (r257.2.1.2.1, ())), ()))
                        else
                          (F_spec_l2Ins ((r3.2.1.1, (r3.2.1.2.1, ())), ())).bind fun r258 =>
                          some ((r258.1.1, ()), ((r258.2.1.1, (r258.2.1.2.1, ())), ()))
abbrev C_spec_l7Ins : Con := ⟨P_spec_l7Ins, R_spec_l7Ins, F_spec_l7Ins, false⟩
abbrev G_spec_l7Ins : Env := [(80, C_spec_l1Pick), (81, C_spec_l1Next), (164, C_spec_l2Ins)]
theorem g_spec_l7Ins : EnvOk Try.prog G_spec_l7Ins := (env_cons s_spec_l1Pick (env_cons s_spec_l1Next (env_cons s_spec_l2Ins env_nil)))
theorem r_spec_l7Ins (x) : runFn T G_spec_l7Ins [] Try.f134 P_spec_l7Ins R_spec_l7Ins x = F_spec_l7Ins x := by kernel_rfl
theorem s_spec_l7Ins : CallsOk Try.prog 134 C_spec_l7Ins :=
  fn_calls (L := []) hT g_spec_l7Ins Try.f134 (by kernel_rfl) (by kernel_rfl) (by kernel_rfl) (plain_ok (by kernel_rfl)) r_spec_l7Ins
/-! spec.InsFault -/
abbrev P_spec_InsFault : List PK := [.val (.pair (.int .i64) (.pair (.int .i64) (.pair (.int .i64) (.pair (.int .i64) .unit))))]
abbrev R_spec_InsFault : List VK := [.s (.dat (.int .i64))]
def F_spec_InsFault (x : denP P_spec_InsFault) : Option (denV R_spec_InsFault × denQ P_spec_InsFault) :=
  (F_spec_l1In (x.1.1, (1 : Int), (26 : Int), ())).bind fun r1 =>
  if (!r1.1.1) = false then
    (F_spec_l1In (x.1.2.1, (0 : Int), (15 : Int), ())).bind fun r2 =>
    if (!r2.1.1) = false then
      (F_spec_l1In (x.1.2.2.1, (0 : Int), (15 : Int), ())).bind fun r3 =>
      if (!r3.1.1) = false then
        (F_spec_l1In (x.1.2.2.2.1, (0 : Int), (65535 : Int), ())).bind fun r4 =>
        if (!r4.1.1) then
          some (((3 : Int), ()), ())
        else
          (F_spec_l2Bare (x.1.1, ())).bind fun r5 =>
          if r5.1.1 = true then
            if (x.1.2.1 != (0 : Int)) = false then
              if r5.1.2.1 = true then
                if (x.1.2.2.1 != (0 : Int)) = false then
                  if r5.1.2.2.1 = true then
                    if (x.1.2.2.2.1 != (0 : Int)) = false then
                      if (leI x.1.1 (11 : Int)) = true then
                        if (ltI (15 : Int) x.1.2.2.2.1) = false then
                          if (x.1.1 == (21 : Int)) = false then
                            if (x.1.1 == (22 : Int)) = true then
                              if (ltI (10 : Int) x.1.2.2.2.1) then
                                some (((1 : Int), ()), ())
                              else
                                some (((0 : Int), ()), ())
                            else
                              some (((0 : Int), ()), ())
                          else
                            if (ltI (10 : Int) x.1.2.2.2.1) then
                              some (((1 : Int), ()), ())
                            else
                              some (((0 : Int), ()), ())
                        else
                          some (((1 : Int), ()), ())
                      else
                        if (x.1.1 == (21 : Int)) = false then
                          if (x.1.1 == (22 : Int)) = true then
                            if (ltI (10 : Int) x.1.2.2.2.1) then
                              some (((1 : Int), ()), ())
                            else
                              some (((0 : Int), ()), ())
                          else
                            some (((0 : Int), ()), ())
                        else
                          if (ltI (10 : Int) x.1.2.2.2.1) then
                            some (((1 : Int), ()), ())
                          else
                            some (((0 : Int), ()), ())
                    else
                      some (((1 : Int), ()), ())
                  else
                    if (leI x.1.1 (11 : Int)) = true then
                      if (ltI (15 : Int) x.1.2.2.2.1) = false then
                        if (x.1.1 == (21 : Int)) = false then
                          if (x.1.1 == (22 : Int)) = true then
                            if (ltI (10 : Int) x.1.2.2.2.1) then
                              some (((1 : Int), ()), ())
                            else
                              some (((0 : Int), ()), ())
                          else
                            some (((0 : Int), ()), ())
                        else
                          if (ltI (10 : Int) x.1.2.2.2.1) then
                            some (((1 : Int), ()), ())
                          else
                            some (((0 : Int), ()), ())
                      else
                        some (((1 : Int), ()), ())
                    else
                      if (x.1.1 == (21 : Int)) = false then
                        if (x.1.1 == (22 : Int)) = true then
                          if (ltI (10 : Int) x.1.2.2.2.1) then
                            some (((1 : Int), ()), ())
                          else
                            some (((0 : Int), ()), ())
                        else
                          some (((0 : Int), ()), ())
                      else
                        if (ltI (10 : Int) x.1.2.2.2.1) then
                          some (((1 : Int), ()), ())
                        else
                          some (((0 : Int), ()), ())
                else
                  some (((1 : Int), ()), ())
              else
                if r5.1.2.2.1 = true then
                  if (x.1.2.2.2.1 != (0 : Int)) = false then
                    if (leI x.1.1 (11 : Int)) = true then
                      if (ltI (15 : Int) x.1.2.2.2.1) = false then
                        if (x.1.1 == (21 : Int)) = false then
                          if (x.1.1 == (22 : Int)) = true then
                            if (ltI (10 : Int) x.1.2.2.2.1) then
                              some (((1 : Int), ()), ())
                            else
                              some (((0 : Int), ()), ())
                          else
                            some (((0 : Int), ()), ())
                        else
                          if (ltI (10 : Int) x.1.2.2.2.1) then
                            some (((1 : Int), ()), ())
                          else
                            some (((0 : Int), ()), ())
                      else
                        some (((1 : Int), ()), ())
                    else
                      if (x.1.1 == (21 : Int)) = false then
                        if (x.1.1 == (22 : Int)) = true then
                          if (ltI (10 : Int) x.1.2.2.2.1) then
                            some (((1 : Int), ()), ())
                          else
                            some (((0 : Int), ()), ())
                        else
                          some (((0 : Int), ()), ())
                      else
                        if (ltI (10 : Int) x.1.2.2.2.1) then
                          some (((1 : Int), ()), ())
                        else
                          some (((0 : Int), ()), ())
                  else
                    some (((1 : Int), ()), ())
                else
                  if (leI x.1.1 (11 : Int)) = true then
                    if (ltI (15 : Int) x.1.2.2.2.1) = false then
                      if (x.1.1 == (21 : Int)) = false then
                        if (x.1.1 == (22 : Int)) = true then
                          if (ltI (10 : Int) x.1.2.2.2.1) then
                            some (((1 : Int), ()), ())
                          else
                            some (((0 : Int), ()), ())
                        else
                          some (((0 : Int), ()), ())
                      else
                        if (ltI (10 : Int) x.1.2.2.2.1) then
                          some (((1 : Int), ()), ())
                        else
                          some (((0 : Int), ()), ())
                    else
                      some (((1 : Int), ()), ())
                  else
                    if (x.1.1 == (21 : Int)) = false then
                      if (x.1.1 == (22 : Int)) = true then
                        if (ltI (10 : Int) x.1.2.2.2.1) then
                          some (((1 : Int), ()), ())
                        else
                          some (((0 : Int), ()), ())
                      else
                        some (((0 : Int), ()), ())
                    else
                      if (ltI (10 : Int) x.1.2.2.2.1) then
                        some (((1 : Int), ()), ())
                      else
                        some (((0 : Int), ()), ())
            else
              some (((1 : Int), ()), ())
          else
            if r5.1.2.1 = true then
              if (x.1.2.2.1 != (0 : Int)) = false then
                if r5.1.2.2.1 = true then
                  if (x.1.2.2.2.1 != (0 : Int)) = false then
                    if (leI x.1.1 (11 : Int)) = true then
                      if (ltI (15 : Int) x.1.2.2.2.1) = false then
                        if (x.1.1 == (21 : Int)) = false then
                          if (x.1.1 == (22 : Int)) = true then
                            if (ltI (10 : Int) x.1.2.2.2.1) then
                              some (((1 : Int), ()), ())
                            else
                              some (((0 : Int), ()), ())
                          else
                            some (((0 : Int), ()), ())
                        else
                          if (ltI (10 : Int) x.1.2.2.2.1) then
                            some (((1 : Int), ()), ())
                          else
                            some (((0 : Int), ()), ())
                      else
                        some (((1 : Int), ()), ())
                    else
                      if (x.1.1 == (21 : Int)) = false then
                        if (x.1.1 == (22 : Int)) = true then
                          if (ltI (10 : Int) x.1.2.2.2.1) then
                            some (((1 : Int), ()), ())
                          else
                            some (((0 : Int), ()), ())
                        else
                          some (((0 : Int), ()), ())
                      else
                        if (ltI (10 : Int) x.1.2.2.2.1) then
                          some (((1 : Int), ()), ())
                        else
                          some (((0 : Int), ()), ())
                  else
                    some (((1 : Int), ()), ())
                else
                  if (leI x.1.1 (11 : Int)) = true then
                    if (ltI (15 : Int) x.1.2.2.2.1) = false then
                      if (x.1.1 == (21 : Int)) = false then
                        if (x.1.1 == (22 : Int)) = true then
                          if (ltI (10 : Int) x.1.2.2.2.1) then
                            some (((1 : Int), ()), ())
                          else
                            some (((0 : Int), ()), ())
                        else
                          some (((0 : Int), ()), ())
                      else
                        if (ltI (10 : Int) x.1.2.2.2.1) then
                          some (((1 : Int), ()), ())
                        else
                          some (((0 : Int), ()), ())
                    else
                      some (((1 : Int), ()), ())
                  else
                    if (x.1.1 == (21 : Int)) = false then
                      if (x.1.1 == (22 : Int)) = true then
                        if (ltI (10 : Int) x.1.2.2.2.1) then
                          some (((1 : Int), ()), ())
                        else
                          some (((0 : Int), ()), ())
                      else
                        some (((0 : Int), ()), ())
                    else
                      if (ltI (10 : Int) x.1.2.2.2.1) then
                        some (((1 : Int), ()), ())
                      else
                        some (((0 : Int), ()), ())
              else
                some (((1 : Int), ()), ())
            else
              if r5.1.2.2.1 = true then
                if (x.1.2.2.2.1 != (0 : Int)) = false then
                  if (leI x.1.1 (11 : Int)) = true then
                    if (ltI (15 : Int) x.1.2.2.2.1) = false then
                      if (x.1.1 == (21 : Int)) = false then
                        if (x.1.1 == (22 : Int)) = true then
                          if (ltI (10 : Int) x.1.2.2.2.1) then
                            some (((1 : Int), ()), ())
                          else
                            some (((0 : Int), ()), ())
                        else
                          some (((0 : Int), ()), ())
                      else
                        if (ltI (10 : Int) x.1.2.2.2.1) then
                          some (((1 : Int), ()), ())
                        else
                          some (((0 : Int), ()), ())
                    else
                      some (((1 : Int), ()), ())
                  else
                    if (x.1.1 == (21 : Int)) = false then
                      if (x.1.1 == (22 : Int)) = true then
                        if (ltI (10 : Int) x.1.2.2.2.1) then
                          some (((1 : Int), ()), ())
                        else
                          some (((0 : Int), ()), ())
                      else
                        some (((0 : Int), ()), ())
                    else
                      if (ltI (10 : Int) x.1.2.2.2.1) then
                        some (((1 : Int), ()), ())
                      else
                        some (((0 : Int), ()), ())
                else
                  some (((1 : Int), ()), ())
              else
                if (leI x.1.1 (11 : Int)) = true then
                  if (ltI (15 : Int) x.1.2.2.2.1) = false then
                    if (x.1.1 == (21 : Int)) = false then
                      if (x.1.1 == (22 : Int)) = true then
                        if (ltI (10 : Int) x.1.2.2.2.1) then
                          some (((1 : Int), ()), ())
                        else
                          some (((0 : Int), ()), ())
                      else
                        some (((0 : Int), ()), ())
                    else
                      if (ltI (10 : Int) x.1.2.2.2.1) then
                        some (((1 : Int), ()), ())
                      else
                        some (((0 : Int), ()), ())
                  else
                    some (((1 : Int), ()), ())
                else
                  if (x.1.1 == (21 : Int)) = false then
                    if (x.1.1 == (22 : Int)) = true then
                      if (ltI (10 : Int) x.1.2.2.2.1) then
                        some (((1 : Int), ()), ())
                      else
                        some (((0 : Int), ()), ())
                    else
                      some (((0 : Int), ()), ())
                  else
                    if (ltI (10 : Int) x.1.2.2.2.1) then
                      some (((1 : Int), ()), ())
                    else
                      some (((0 : Int), ()), ())
      else
        some (((3 : Int), ()), ())
    else
      some (((3 : Int), ()), ())
  else
    some (((3 : Int), ()), ())
abbrev C_spec_InsFault : Con := ⟨P_spec_InsFault, R_spec_InsFault, F_spec_InsFault, false⟩
abbrev G_spec_InsFault : Env := [(60, C_spec_l1In), (189, C_spec_l2Bare)]
theorem g_spec_InsFault : EnvOk Try.prog G_spec_InsFault := (env_cons s_spec_l1In (env_cons s_spec_l2Bare env_nil))
theorem r_spec_InsFault (x) : runFn T G_spec_InsFault [] Try.f163 P_spec_InsFault R_spec_InsFault x = F_spec_InsFault x := by kernel_rfl
theorem s_spec_InsFault : CallsOk Try.prog 163 C_spec_InsFault :=
  fn_calls (L := []) hT g_spec_InsFault Try.f163 (by kernel_rfl) (by kernel_rfl) (by kernel_rfl) (plain_ok (by kernel_rfl)) r_spec_InsFault
/-! spec.EncodeIns -/
abbrev P_spec_EncodeIns : List PK := [.val (.pair (.int .i64) (.pair (.int .i64) (.pair (.int .i64) (.pair (.int .i64) .unit))))]
abbrev R_spec_EncodeIns : List VK := [.s (.dat (.pair (.int .i64) (.pair (.int .i64) .unit)))]
def F_spec_EncodeIns (x : denP P_spec_EncodeIns) : Option (denV R_spec_EncodeIns × denQ P_spec_EncodeIns) :=
  (F_spec_InsFault (x.1, ())).bind fun r1 =>
  if (r1.1.1 != (0 : Int)) then
    some (((r1.1.1, ((0 : Int), ())), ()), ())
  else
    let v2 := (IntKind.i64.wrap (x.1.1 * 2 ^ 24))
    let v3 := (IntKind.i64.wrap (x.1.2.1 * 2 ^ 20))
    let v4 := (IntKind.i64.wrap (v2 + v3))
    let v5 := (IntKind.i64.wrap (x.1.2.2.1 * 2 ^ 16))
    let v6 := (IntKind.i64.wrap (v4 + v5))
    let v7 := (IntKind.i64.wrap (v6 + x.1.2.2.2.1))
    some ((((0 : Int), (v7, ())), ()), ())
abbrev C_spec_EncodeIns : Con := ⟨P_spec_EncodeIns, R_spec_EncodeIns, F_spec_EncodeIns, false⟩
abbrev G_spec_EncodeIns : Env := [(163, C_spec_InsFault)]
theorem g_spec_EncodeIns : EnvOk Try.prog G_spec_EncodeIns := (env_cons s_spec_InsFault env_nil)
theorem r_spec_EncodeIns (x) : runFn T G_spec_EncodeIns [] Try.f133 P_spec_EncodeIns R_spec_EncodeIns x = F_spec_EncodeIns x := by kernel_rfl
theorem s_spec_EncodeIns : CallsOk Try.prog 133 C_spec_EncodeIns :=
  fn_calls (L := []) hT g_spec_EncodeIns Try.f133 (by kernel_rfl) (by kernel_rfl) (by kernel_rfl) (plain_ok (by kernel_rfl)) r_spec_EncodeIns
/-! spec.l1Chance -/
abbrev P_spec_l1Chance : List PK := [.box [.dat (.slice (.int .u8)), .dat (.int .i64)] [.dat (.slice (.int .u8)), .dat (.int .i64)], .val (.int .i64)]
abbrev R_spec_l1Chance : List VK := [.s (.dat .bool)]
def F_spec_l1Chance (x : denP P_spec_l1Chance) : Option (denV R_spec_l1Chance × denQ P_spec_l1Chance) :=
  (F_spec_l1Next ((x.1.1, (x.1.2.1, ())), x.2.1, ())).bind fun r1 =>
  some (((r1.1.1 == (0 : Int)), ()), ((r1.2.1.1, (r1.2.1.2.1, ())), ()))
abbrev C_spec_l1Chance : Con := ⟨P_spec_l1Chance, R_spec_l1Chance, F_spec_l1Chance, false⟩
abbrev G_spec_l1Chance : Env := [(81, C_spec_l1Next)]
theorem g_spec_l1Chance : EnvOk Try.prog G_spec_l1Chance := (env_cons s_spec_l1Next env_nil)
theorem r_spec_l1Chance (x) : runFn T G_spec_l1Chance [] Try.f131 P_spec_l1Chance R_spec_l1Chance x = F_spec_l1Chance x := by kernel_rfl
theorem s_spec_l1Chance : CallsOk Try.prog 131 C_spec_l1Chance :=
  fn_calls (L := []) hT g_spec_l1Chance Try.f131 (by kernel_rfl) (by kernel_rfl) (by kernel_rfl) (plain_ok (by kernel_rfl)) r_spec_l1Chance
/-! spec.l1Word -/
abbrev P_spec_l1Word : List PK := [.box [.dat (.slice (.int .u8)), .dat (.int .i64)] [.dat (.slice (.int .u8)), .dat (.int .i64)]]
abbrev R_spec_l1Word : List VK := [.s (.dat (.int .i64))]
def F_spec_l1Word (x : denP P_spec_l1Word) : Option (denV R_spec_l1Word × denQ P_spec_l1Word) :=
  (F_spec_l1Next ((x.1.1, (x.1.2.1, ())), (90 : Int), ())).bind fun r1 =>
  (F_spec_l1Next ((r1.2.1.1, (r1.2.1.2.1, ())), (9 : Int), ())).bind fun r2 =>
  (F_spec_l1Next ((r2.2.1.1, (r2.2.1.2.1, ())), (9 : Int), ())).bind fun r3 =>
  let v4 := (IntKind.i64.wrap ((4294967295 : Int) - r3.1.1))
  (F_spec_l1Next ((r3.2.1.1, (r3.2.1.2.1, ())), (60000 : Int), ())).bind fun r5 =>
  let v6 := (IntKind.i64.wrap (r5.1.1 * (70000 : Int)))
  (F_spec_l1Pick ((r5.2.1.1, (r5.2.1.2.1, ())), [r1.1.1, r2.1.1, v4, (2147483648 : Int), (2147483647 : Int), (0 : Int), v6], ())).bind fun r7 =>
  some ((r7.1.1, ()), ((r7.2.1.1, (r7.2.1.2.1, ())), ()))
abbrev C_spec_l1Word : Con := ⟨P_spec_l1Word, R_spec_l1Word, F_spec_l1Word, false⟩
abbrev G_spec_l1Word : Env := [(80, C_spec_l1Pick), (81, C_spec_l1Next)]
theorem g_spec_l1Word : EnvOk Try.prog G_spec_l1Word := (env_cons s_spec_l1Pick (env_cons s_spec_l1Next env_nil))
theorem r_spec_l1Word (x) : runFn T G_spec_l1Word [] Try.f135 P_spec_l1Word R_spec_l1Word x = F_spec_l1Word x := by kernel_rfl
theorem s_spec_l1Word : CallsOk Try.prog 135 C_spec_l1Word :=
  fn_calls (L := []) hT g_spec_l1Word Try.f135 (by kernel_rfl) (by kernel_rfl) (by kernel_rfl) (plain_ok (by kernel_rfl)) r_spec_l1Word
/-! spec.l7Image -/
abbrev P_spec_l7Image : List PK := [.box [.dat (.slice (.int .u8)), .dat (.int .i64)] [.dat (.slice (.int .u8)), .dat (.int .i64)], .val (.int .i64)]
abbrev R_spec_l7Image : List VK := [.s (.own 2 (.int .i64))]
abbrev i_spec_l7Image_2 : Shp := { slots := [(0, .s (.ptr 9000000 0)), (1, .s (.dat (.int .i64))), (5, .s (.own 2 (.int .i64)))], boxes := [(9000000, [.dat (.slice (.int .u8)), .dat (.int .i64)])], rows := [] }
abbrev o_spec_l7Image_2 : List (Ex × Shp) := [(.exit 0, { slots := [(5, .s (.own 2 (.int .i64)))], boxes := [(9000000, [.dat (.slice (.int .u8)), .dat (.int .i64)])], rows := [] })]
def l_spec_l7Image_2 (rec : i_spec_l7Image_2.den → Option (denO o_spec_l7Image_2)) (u2 : i_spec_l7Image_2.den) : Option (denO o_spec_l7Image_2) :=
  if (ltI (0 : Int) u2.1.2.1) then
    (F_spec_l7Ins ((u2.2.1.1.1, (u2.2.1.1.2.1, ())), ())).bind fun r5 =>
    (F_spec_EncodeIns (r5.1.1, ())).bind fun r6 =>
    (F_spec_l1Chance ((r5.2.1.1, (r5.2.1.2.1, ())), (20 : Int), ())).bind fun r7 =>
    if r7.1.1 then
      (F_spec_l1Word ((r7.2.1.1, (r7.2.1.2.1, ())), ())).bind fun r8 =>
      if (u2.1.2.2.1.length + [r8.1.1].length) * 8 ≤ 140737488355328 then
        let v9 := (u2.1.2.2.1 ++ [r8.1.1])
        let v10 := (IntKind.i64.wrap (u2.1.2.1 - (1 : Int)))
        rec (((), (v10, (v9, ()))), (((r8.2.1.1, (r8.2.1.2.1, ())), ()), ()))
      else none
    else
      if (u2.1.2.2.1.length + [r6.1.1.2.1].length) * 8 ≤ 140737488355328 then
        let v11 := (u2.1.2.2.1 ++ [r6.1.1.2.1])
        let v12 := (IntKind.i64.wrap (u2.1.2.1 - (1 : Int)))
        rec (((), (v12, (v11, ()))), (((r7.2.1.1, (r7.2.1.2.1, ())), ()), ()))
      else none
  else
    some (.inl ((u2.1.2.2.1, ()), (((u2.2.1.1.1, (u2.2.1.1.2.1, ())), ()), ())))
def L_spec_l7Image_2 (x : i_spec_l7Image_2.den) : Option (denO o_spec_l7Image_2) := iterF l_spec_l7Image_2 lots x
def F_spec_l7Image (x : denP P_spec_l7Image) : Option (denV R_spec_l7Image × denQ P_spec_l7Image) :=
  (L_spec_l7Image_2 (((), (x.2.1, (([] : List (den (.int .i64))), ()))), (((x.1.1, (x.1.2.1, ())), ()), ()))).bind fun z13 =>
  match z13 with
  | .inl x14 =>
    some ((x14.1.1, ()), ((x14.2.1.1.1, (x14.2.1.1.2.1, ())), ()))
  | .inr z13_ =>
    none
abbrev C_spec_l7Image : Con := ⟨P_spec_l7Image, R_spec_l7Image, F_spec_l7Image, false⟩
abbrev G_spec_l7Image : Env := [(131, C_spec_l1Chance), (133, C_spec_EncodeIns), (134, C_spec_l7Ins), (135, C_spec_l1Word)]
theorem g_spec_l7Image : EnvOk Try.prog G_spec_l7Image := (env_cons s_spec_l1Chance (env_cons s_spec_EncodeIns (env_cons s_spec_l7Ins (env_cons s_spec_l1Word env_nil))))
abbrev c_spec_l7Image_2 : Cut := ⟨i_spec_l7Image_2, o_spec_l7Image_2, fun x => iterF l_spec_l7Image_2 lots x⟩
theorem t_spec_l7Image_2 (rec x) : run T G_spec_l7Image [] (nav Try.f82 [1, 1, 0, 0, 0]) (mk 25 i_spec_l7Image_2 x) (loopK i_spec_l7Image_2 o_spec_l7Image_2 rec) = l_spec_l7Image_2 rec x := by kernel_rfl
theorem k_spec_l7Image_2 : CutOk Try.prog 25 (.loop (nav Try.f82 [1, 1, 0, 0, 0])) c_spec_l7Image_2 :=
  loop_cut (L := []) hT g_spec_l7Image t_spec_l7Image_2 (plain_ok (by kernel_rfl)) _
theorem r_spec_l7Image (x) : runFn T G_spec_l7Image [(2, c_spec_l7Image_2)] Try.f82 P_spec_l7Image R_spec_l7Image x = F_spec_l7Image x := by kernel_rfl
theorem s_spec_l7Image : CallsOk Try.prog 82 C_spec_l7Image :=
  fn_calls (L := [(2, c_spec_l7Image_2)]) hT g_spec_l7Image Try.f82 (by kernel_rfl) (by kernel_rfl) (by kernel_rfl) (seq_ok (plain_ok (by kernel_rfl)) (seq_ok (plain_ok (by kernel_rfl)) (seq_ok (block_ok (by kernel_rfl) (loop_ok (by kernel_rfl) k_spec_l7Image_2)) (plain_ok (by kernel_rfl))))) r_spec_l7Image
/-! spec.l1Wide -/
abbrev P_spec_l1Wide : List PK := [.box [.dat (.slice (.int .u8)), .dat (.int .i64)] [.dat (.slice (.int .u8)), .dat (.int .i64)]]
abbrev R_spec_l1Wide : List VK := [.s (.dat (.int .i64))]
def F_spec_l1Wide (x : denP P_spec_l1Wide) : Option (denV R_spec_l1Wide × denQ P_spec_l1Wide) :=
  (F_spec_l1Word ((x.1.1, (x.1.2.1, ())), ())).bind fun r1 =>
  (F_spec_l1Word ((r1.2.1.1, (r1.2.1.2.1, ())), ())).bind fun r2 =>
  (F_spec_l1Word ((r2.2.1.1, (r2.2.1.2.1, ())), ())).bind fun r3 =>
  (F_spec_l1Pick ((r3.2.1.1, (r3.2.1.2.1, ())), [r1.1.1, r2.1.1, r3.1.1, (-1 : Int), (-9223372036854775808 : Int), (9223372036854775807 : Int), (4294967296 : Int), (-5 : Int)], ())).bind fun r4 =>
  some ((r4.1.1, ()), ((r4.2.1.1, (r4.2.1.2.1, ())), ()))
abbrev C_spec_l1Wide : Con := ⟨P_spec_l1Wide, R_spec_l1Wide, F_spec_l1Wide, false⟩
abbrev G_spec_l1Wide : Env := [(80, C_spec_l1Pick), (135, C_spec_l1Word)]
theorem g_spec_l1Wide : EnvOk Try.prog G_spec_l1Wide := (env_cons s_spec_l1Pick (env_cons s_spec_l1Word env_nil))
theorem r_spec_l1Wide (x) : runFn T G_spec_l1Wide [] Try.f132 P_spec_l1Wide R_spec_l1Wide x = F_spec_l1Wide x := by kernel_rfl
theorem s_spec_l1Wide : CallsOk Try.prog 132 C_spec_l1Wide :=
  fn_calls (L := []) hT g_spec_l1Wide Try.f132 (by kernel_rfl) (by kernel_rfl) (by kernel_rfl) (plain_ok (by kernel_rfl)) r_spec_l1Wide
/-! spec.DrawDisassemble -/
abbrev P_spec_DrawDisassemble : List PK := [.val (.slice (.int .u8))]
abbrev R_spec_DrawDisassemble : List VK := [.s (.own 2 (.int .i64))]
def F_spec_DrawDisassemble (x : denP P_spec_DrawDisassemble) : Option (denV R_spec_DrawDisassemble × denQ P_spec_DrawDisassemble) :=
  (F_spec_l1Source (x.1, ())).bind fun r1 =>
  (F_spec_l1Next ((r1.1.1.1, (r1.1.1.2.1, ())), (12 : Int), ())).bind fun r2 =>
  (F_spec_l1Next ((r2.2.1.1, (r2.2.1.2.1, ())), (12 : Int), ())).bind fun r3 =>
  (F_spec_l1Pick ((r3.2.1.1, (r3.2.1.2.1, ())), [r2.1.1, r3.1.1, (80 : Int), (81 : Int)], ())).bind fun r4 =>
  (F_spec_l7Image ((r4.2.1.1, (r4.2.1.2.1, ())), r4.1.1, ())).bind fun r5 =>
  let v6 := ((r5.1.1.length : Nat) : Int)
  if (ltI (0 : Int) v6) = true then
    (F_spec_l1Chance ((r5.2.1.1, (r5.2.1.2.1, ())), (8 : Int), ())).bind fun r7 =>
    if r7.1.1 then
      (F_spec_l1Wide ((r7.2.1.1, (r7.2.1.2.1, ())), ())).bind fun r8 =>
      if 0 ≤ (0 : Int) ∧ (0 : Int) < ((r5.1.1.length : Nat) : Int) then
        ((r5.1.1)[((0 : Int)).toNat]?).bind fun y9 =>
        let v10 := (r5.1.1.set ((0 : Int)).toNat r8.1.1)
        some ((v10, ()), ())
      else none
    else
      some ((r5.1.1, ()), ())
  else
    some ((r5.1.1, ()), ())
abbrev C_spec_DrawDisassemble : Con := ⟨P_spec_DrawDisassemble, R_spec_DrawDisassemble, F_spec_DrawDisassemble, false⟩
abbrev G_spec_DrawDisassemble : Env := [(78, C_spec_l1Source), (80, C_spec_l1Pick), (81, C_spec_l1Next), (82, C_spec_l7Image), (131, C_spec_l1Chance), (132, C_spec_l1Wide)]
theorem g_spec_DrawDisassemble : EnvOk Try.prog G_spec_DrawDisassemble := (env_cons s_spec_l1Source (env_cons s_spec_l1Pick (env_cons s_spec_l1Next (env_cons s_spec_l7Image (env_cons s_spec_l1Chance (env_cons s_spec_l1Wide env_nil))))))
theorem r_spec_DrawDisassemble (x) : runFn T G_spec_DrawDisassemble [] Try.f79 P_spec_DrawDisassemble R_spec_DrawDisassemble x = F_spec_DrawDisassemble x := by kernel_rfl
theorem s_spec_DrawDisassemble : CallsOk Try.prog 79 C_spec_DrawDisassemble :=
  fn_calls (L := []) hT g_spec_DrawDisassemble Try.f79 (by kernel_rfl) (by kernel_rfl) (by kernel_rfl) (plain_ok (by kernel_rfl)) r_spec_DrawDisassemble
/-! spec.DrawPatchImage -/
abbrev P_spec_DrawPatchImage : List PK := [.val (.slice (.int .u8))]
abbrev R_spec_DrawPatchImage : List VK := [.s (.own 2 (.int .i64)), .s (.dat (.int .i64)), .s (.own 2 (.int .i64))]
def F_spec_DrawPatchImage (x : denP P_spec_DrawPatchImage) : Option (denV R_spec_DrawPatchImage × denQ P_spec_DrawPatchImage) :=
  (F_spec_l1Source (x.1, ())).bind fun r1 =>
  (F_spec_DrawDisassemble (x.1, ())).bind fun r2 =>
  let v3 := ((r2.1.1.length : Nat) : Int)
  let v4 := (IntKind.i64.wrap (v3 + (1 : Int)))
  (F_spec_l1Next ((r1.1.1.1, (r1.1.1.2.1, ())), v4, ())).bind fun r5 =>
  let v6 := (IntKind.i64.wrap (v3 + (1 : Int)))
  (F_spec_l1Next ((r5.2.1.1, (r5.2.1.2.1, ())), v6, ())).bind fun r7 =>
  let v8 := (IntKind.i64.wrap (v3 + (1 : Int)))
  (F_spec_l1Pick ((r7.2.1.1, (r7.2.1.2.1, ())), [r5.1.1, r7.1.1, v3, v8, (-1 : Int)], ())).bind fun r9 =>
  (F_spec_l1Next ((r9.2.1.1, (r9.2.1.2.1, ())), (9 : Int), ())).bind fun r10 =>
  (F_spec_l7Image ((r10.2.1.1, (r10.2.1.2.1, ())), r10.1.1, ())).bind fun r11 =>
  some ((r2.1.1, r9.1.1, r11.1.1, ()), ())
abbrev C_spec_DrawPatchImage : Con := ⟨P_spec_DrawPatchImage, R_spec_DrawPatchImage, F_spec_DrawPatchImage, false⟩
abbrev G_spec_DrawPatchImage : Env := [(78, C_spec_l1Source), (79, C_spec_DrawDisassemble), (80, C_spec_l1Pick), (81, C_spec_l1Next), (82, C_spec_l7Image)]
theorem g_spec_DrawPatchImage : EnvOk Try.prog G_spec_DrawPatchImage := (env_cons s_spec_l1Source (env_cons s_spec_DrawDisassemble (env_cons s_spec_l1Pick (env_cons s_spec_l1Next (env_cons s_spec_l7Image env_nil)))))
theorem r_spec_DrawPatchImage (x) : runFn T G_spec_DrawPatchImage [] Try.f36 P_spec_DrawPatchImage R_spec_DrawPatchImage x = F_spec_DrawPatchImage x := by kernel_rfl
theorem s_spec_DrawPatchImage : CallsOk Try.prog 36 C_spec_DrawPatchImage :=
  fn_calls (L := []) hT g_spec_DrawPatchImage Try.f36 (by kernel_rfl) (by kernel_rfl) (by kernel_rfl) (plain_ok (by kernel_rfl)) r_spec_DrawPatchImage
/-! laws.FnPatches -/
abbrev P_laws_FnPatches : List PK := [.val (.slice (.int .u8))]
abbrev R_laws_FnPatches : List VK := [.s (.dat .bool)]
abbrev i_laws_FnPatches_8 : Shp := { slots := [(3, .s (.own 2 (.int .i64))), (4, .s (.dat (.int .i64))), (5, .s (.own 2 (.int .i64))), (6, .s (.ptr 6 0)), (7, .s (.dat (.int .i64)))], boxes := [(6, [.dat (.int .i64), .dat (.int .i64), .own 2 (.int .i64)])], rows := [] }
abbrev o_laws_FnPatches_8 : List (Ex × Shp) := [(.exit 0, { slots := [(3, .s (.own 2 (.int .i64))), (4, .s (.dat (.int .i64))), (5, .s (.own 2 (.int .i64))), (6, .s (.ptr 6 0))], boxes := [(6, [.dat (.int .i64), .dat (.int .i64), .own 2 (.int .i64)])], rows := [] }), (.ret, { slots := [(2, .s (.dat .bool))], boxes := [], rows := [] })]
def l_laws_FnPatches_8 (rec : i_laws_FnPatches_8.den → Option (denO o_laws_FnPatches_8)) (u8 : i_laws_FnPatches_8.den) : Option (denO o_laws_FnPatches_8) :=
  let v13 := ((u8.2.1.1.2.2.1.length : Nat) : Int)
  if (ltI u8.1.2.2.2.2.1 v13) then
    if (leI u8.1.2.1 u8.1.2.2.2.2.1) = true then
      let v14 := ((u8.1.2.2.1.length : Nat) : Int)
      let v15 := (IntKind.i64.wrap (u8.1.2.1 + v14))
      if (ltI u8.1.2.2.2.2.1 v15) = true then
        if 0 ≤ u8.1.2.2.2.2.1 ∧ u8.1.2.2.2.2.1 < ((u8.2.1.1.2.2.1.length : Nat) : Int) then
          ((u8.2.1.1.2.2.1)[(u8.1.2.2.2.2.1).toNat]?).bind fun y16 =>
          let v17 := (IntKind.i64.wrap (u8.1.2.2.2.2.1 - u8.1.2.1))
          if 0 ≤ v17 ∧ v17 < ((u8.1.2.2.1.length : Nat) : Int) then
            ((u8.1.2.2.1)[(v17).toNat]?).bind fun y18 =>
            if (y16 != y18) = false then
              if (!(ltI u8.1.2.2.2.2.1 v15)) = true then
                let v19 := ((u8.1.1.length : Nat) : Int)
                if (leI v19 u8.1.2.2.2.2.1) = false then
                  if 0 ≤ u8.1.2.2.2.2.1 ∧ u8.1.2.2.2.2.1 < ((u8.2.1.1.2.2.1.length : Nat) : Int) then
                    ((u8.2.1.1.2.2.1)[(u8.1.2.2.2.2.1).toNat]?).bind fun y20 =>
                    if 0 ≤ u8.1.2.2.2.2.1 ∧ u8.1.2.2.2.2.1 < ((u8.1.1.length : Nat) : Int) then
                      ((u8.1.1)[(u8.1.2.2.2.2.1).toNat]?).bind fun y21 =>
                      if (y20 != y21) then
                        some (.inr (.inl ((false, ()), ((), ()))))
                      else
                        let v22 := (IntKind.i64.wrap (u8.1.2.2.2.2.1 + (1 : Int)))
                        rec ((u8.1.1, (u8.1.2.1, (u8.1.2.2.1, ((), (v22, ()))))), (((u8.2.1.1.1, (u8.2.1.1.2.1, (u8.2.1.1.2.2.1, ()))), ()), ()))
                    else none
                  else none
                else
                  some (.inr (.inl ((false, ()), ((), ()))))
              else
                let v23 := (IntKind.i64.wrap (u8.1.2.2.2.2.1 + (1 : Int)))
                rec ((u8.1.1, (u8.1.2.1, (u8.1.2.2.1, ((), (v23, ()))))), (((u8.2.1.1.1, (u8.2.1.1.2.1, (u8.2.1.1.2.2.1, ()))), ()), ()))
            else
              some (.inr (.inl ((false, ()), ((), ()))))
          else none
        else none
      else
        if (!(ltI u8.1.2.2.2.2.1 v15)) = true then
          let v24 := ((u8.1.1.length : Nat) : Int)
          if (leI v24 u8.1.2.2.2.2.1) = false then
            if 0 ≤ u8.1.2.2.2.2.1 ∧ u8.1.2.2.2.2.1 < ((u8.2.1.1.2.2.1.length : Nat) : Int) then
              ((u8.2.1.1.2.2.1)[(u8.1.2.2.2.2.1).toNat]?).bind fun y25 =>
              if 0 ≤ u8.1.2.2.2.2.1 ∧ u8.1.2.2.2.2.1 < ((u8.1.1.length : Nat) : Int) then
                ((u8.1.1)[(u8.1.2.2.2.2.1).toNat]?).bind fun y26 =>
                if (y25 != y26) then
                  some (.inr (.inl ((false, ()), ((), ()))))
                else
                  let v27 := (IntKind.i64.wrap (u8.1.2.2.2.2.1 + (1 : Int)))
                  rec ((u8.1.1, (u8.1.2.1, (u8.1.2.2.1, ((), (v27, ()))))), (((u8.2.1.1.1, (u8.2.1.1.2.1, (u8.2.1.1.2.2.1, ()))), ()), ()))
              else none
            else none
          else
            some (.inr (.inl ((false, ()), ((), ()))))
        else
          let v28 := (IntKind.i64.wrap (u8.1.2.2.2.2.1 + (1 : Int)))
          rec ((u8.1.1, (u8.1.2.1, (u8.1.2.2.1, ((), (v28, ()))))), (((u8.2.1.1.1, (u8.2.1.1.2.1, (u8.2.1.1.2.2.1, ()))), ()), ()))
    else
      let v29 := ((u8.1.1.length : Nat) : Int)
      if (leI v29 u8.1.2.2.2.2.1) = false then
        if 0 ≤ u8.1.2.2.2.2.1 ∧ u8.1.2.2.2.2.1 < ((u8.2.1.1.2.2.1.length : Nat) : Int) then
          ((u8.2.1.1.2.2.1)[(u8.1.2.2.2.2.1).toNat]?).bind fun y30 =>
          if 0 ≤ u8.1.2.2.2.2.1 ∧ u8.1.2.2.2.2.1 < ((u8.1.1.length : Nat) : Int) then
            ((u8.1.1)[(u8.1.2.2.2.2.1).toNat]?).bind fun y31 =>
            if (y30 != y31) then
              some (.inr (.inl ((false, ()), ((), ()))))
            else
              let v32 := (IntKind.i64.wrap (u8.1.2.2.2.2.1 + (1 : Int)))
              rec ((u8.1.1, (u8.1.2.1, (u8.1.2.2.1, ((), (v32, ()))))), (((u8.2.1.1.1, (u8.2.1.1.2.1, (u8.2.1.1.2.2.1, ()))), ()), ()))
          else none
        else none
      else
        some (.inr (.inl ((false, ()), ((), ()))))
  else
    some (.inl ((u8.1.1, (u8.1.2.1, (u8.1.2.2.1, ((), ())))), (((u8.2.1.1.1, (u8.2.1.1.2.1, (u8.2.1.1.2.2.1, ()))), ()), ())))
def L_laws_FnPatches_8 (x : i_laws_FnPatches_8.den) : Option (denO o_laws_FnPatches_8) := iterF l_laws_FnPatches_8 lots x
def F_laws_FnPatches (x : denP P_laws_FnPatches) : Option (denV R_laws_FnPatches × denQ P_laws_FnPatches) :=
  (F_laws_lwBig (x.1, ())).bind fun r1 =>
  if r1.1.1 then
    some ((true, ()), ())
  else
    (F_spec_DrawPatchImage (x.1, ())).bind fun r2 =>
    (F_impl_PatchImage (r2.1.1, r2.1.2.1, r2.1.2.2.1, ())).bind fun r3 =>
    if (r3.1.1.1 != (0 : Int)) then
      (F_spec_PatchImage (r2.1.1, r2.1.2.1, r2.1.2.2.1, ())).bind fun r4 =>
      some (((r4.1.1.1 == r3.1.1.1), ()), ())
    else
      (L_laws_FnPatches_8 ((r2.1.1, (r2.1.2.1, (r2.1.2.2.1, ((), ((0 : Int), ()))))), (((r3.1.1.1, (r3.1.1.2.1, (r3.1.1.2.2.1, ()))), ()), ()))).bind fun z33 =>
      match z33 with
      | .inl x34 =>
        let v35 := ((x34.2.1.1.2.2.1.length : Nat) : Int)
        let v36 := ((x34.1.1.length : Nat) : Int)
        if (leI v36 v35) = true then
          let v37 := ((x34.2.1.1.2.2.1.length : Nat) : Int)
          let v38 := ((x34.1.2.2.1.length : Nat) : Int)
          let v39 := (IntKind.i64.wrap (x34.1.2.1 + v38))
          some (((leI v39 v37), ()), ())
        else
          some ((false, ()), ())
      | .inr z33_ =>
        match z33_ with
        | .inl x40 =>
          some ((x40.1.1, ()), ())
        | .inr z33__ =>
          none
abbrev C_laws_FnPatches : Con := ⟨P_laws_FnPatches, R_laws_FnPatches, F_laws_FnPatches, false⟩
abbrev G_laws_FnPatches : Env := [(19, C_spec_PatchImage), (20, C_impl_PatchImage), (35, C_laws_lwBig), (36, C_spec_DrawPatchImage)]
theorem g_laws_FnPatches : EnvOk Try.prog G_laws_FnPatches := (env_cons s_spec_PatchImage (env_cons s_impl_PatchImage (env_cons s_laws_lwBig (env_cons s_spec_DrawPatchImage env_nil))))
abbrev c_laws_FnPatches_8 : Cut := ⟨i_laws_FnPatches_8, o_laws_FnPatches_8, fun x => iterF l_laws_FnPatches_8 lots x⟩
theorem t_laws_FnPatches_8 (rec x) : run T G_laws_FnPatches [] (nav Try.f7 [1, 1, 1, 1, 1, 0, 1, 0, 0]) (mk 105 i_laws_FnPatches_8 x) (loopK i_laws_FnPatches_8 o_laws_FnPatches_8 rec) = l_laws_FnPatches_8 rec x := by kernel_rfl
theorem k_laws_FnPatches_8 : CutOk Try.prog 105 (.loop (nav Try.f7 [1, 1, 1, 1, 1, 0, 1, 0, 0])) c_laws_FnPatches_8 :=
  loop_cut (L := []) hT g_laws_FnPatches t_laws_FnPatches_8 (plain_ok (by kernel_rfl)) _
theorem r_laws_FnPatches (x) : runFn T G_laws_FnPatches [(8, c_laws_FnPatches_8)] Try.f7 P_laws_FnPatches R_laws_FnPatches x = F_laws_FnPatches x := by kernel_rfl
theorem s_laws_FnPatches : CallsOk Try.prog 7 C_laws_FnPatches :=
  fn_calls (L := [(8, c_laws_FnPatches_8)]) hT g_laws_FnPatches Try.f7 (by kernel_rfl) (by kernel_rfl) (by kernel_rfl) (seq_ok (plain_ok (by kernel_rfl)) (seq_ok (plain_ok (by kernel_rfl)) (seq_ok (plain_ok (by kernel_rfl)) (seq_ok (plain_ok (by kernel_rfl)) (seq_ok (plain_ok (by kernel_rfl)) (seq_ok (seq_ok (plain_ok (by kernel_rfl)) (block_ok (by kernel_rfl) (loop_ok (by kernel_rfl) k_laws_FnPatches_8))) (plain_ok (by kernel_rfl)))))))) r_laws_FnPatches
theorem q_laws_FnPatches : Sound Try.prog 7 C_laws_FnPatches :=
  fn_snd (L := [(8, c_laws_FnPatches_8)]) hT g_laws_FnPatches Try.f7 (by kernel_rfl) (by kernel_rfl) (seq_ok (plain_ok (by kernel_rfl)) (seq_ok (plain_ok (by kernel_rfl)) (seq_ok (plain_ok (by kernel_rfl)) (seq_ok (plain_ok (by kernel_rfl)) (seq_ok (plain_ok (by kernel_rfl)) (seq_ok (seq_ok (plain_ok (by kernel_rfl)) (block_ok (by kernel_rfl) (loop_ok (by kernel_rfl) k_laws_FnPatches_8))) (plain_ok (by kernel_rfl)))))))) r_laws_FnPatches
end Go.Proofs.Yteddlkdbefloaaa
