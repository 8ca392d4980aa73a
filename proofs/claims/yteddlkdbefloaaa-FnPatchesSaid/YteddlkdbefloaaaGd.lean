/- The functions of the laws, each as a plain function of data (F), and that the program's text does what F says. Printed by a program (wip/tools/gen.py). -/
import Derived.Test.YteddlkdbefloaaaGc
namespace Go.Proofs.Yteddlkdbefloaaa
open Go Go.RowKit S Go.Proofs
set_option maxRecDepth 100000
set_option linter.unusedVariables false
/-! spec.l8Word -/
abbrev P_spec_l8Word : List PK := [.val YI]
abbrev R_spec_l8Word : List VK := [.s (.dat .bool)]
def F_spec_l8Word (x : denP P_spec_l8Word) : Option (denV R_spec_l8Word × denQ P_spec_l8Word) :=
  (F_spec_l1In (x.1, (0 : Int), (4294967295 : Int), ())).bind fun r1 =>
  some ((r1.1.1, ()), ())
abbrev C_spec_l8Word : Con := ⟨P_spec_l8Word, R_spec_l8Word, F_spec_l8Word, false⟩
abbrev G_spec_l8Word : Env := [(60, C_spec_l1In)]
theorem g_spec_l8Word : EnvOk Try.prog G_spec_l8Word := (env_cons s_spec_l1In env_nil)
theorem r_spec_l8Word (x) : runFn T G_spec_l8Word [] Try.f125 P_spec_l8Word R_spec_l8Word x = F_spec_l8Word x := by kernel_rfl
theorem s_spec_l8Word : CallsOk Try.prog 125 C_spec_l8Word :=
  fn_calls (L := []) hT g_spec_l8Word Try.f125 (by kernel_rfl) (by kernel_rfl) (by kernel_rfl) (plain_ok (by kernel_rfl)) r_spec_l8Word
/-! spec.l8All -/
abbrev P_spec_l8All : List PK := [.val Y22]
abbrev R_spec_l8All : List VK := [.s (.dat .bool)]
abbrev i_spec_l8All_2 : Shp := { slots := [(0, .s (.dat Y22)), (3, .s (.dat YI))], boxes := [], rows := [] }
abbrev o_spec_l8All_2 : List (Ex × Shp) := [(.exit 0, { slots := [], boxes := [], rows := [] }), (.ret, { slots := [(2, .s (.dat .bool))], boxes := [], rows := [] })]
def l_spec_l8All_2 (rec : i_spec_l8All_2.den → Option (denO o_spec_l8All_2)) (u2 : i_spec_l8All_2.den) : Option (denO o_spec_l8All_2) :=
  let v3 := ((u2.1.1.length : Nat) : Int)
  if (ltI u2.1.2.1 v3) then
    if 0 ≤ u2.1.2.1 then
      ((u2.1.1)[(u2.1.2.1).toNat]?).bind fun y4 =>
      (F_spec_l8Word (y4, ())).bind fun r5 =>
      if (!r5.1.1) then
        some (.inr (.inl ((false, ()), ((), ()))))
      else
        let v6 := (IntKind.i64.wrap (u2.1.2.1 + (1 : Int)))
        rec ((u2.1.1, (v6, ())), ((), ()))
    else none
  else
    some (.inl ((), ((), ())))
def L_spec_l8All_2 (x : i_spec_l8All_2.den) : Option (denO o_spec_l8All_2) := iterF l_spec_l8All_2 lots x
def F_spec_l8All (x : denP P_spec_l8All) : Option (denV R_spec_l8All × denQ P_spec_l8All) :=
  (L_spec_l8All_2 ((x.1, ((0 : Int), ())), ((), ()))).bind fun z7 =>
  match z7 with
  | .inl x8 =>
    some ((true, ()), ())
  | .inr z7_ =>
    match z7_ with
    | .inl x9 =>
      some ((x9.1.1, ()), ())
    | .inr z7__ =>
      none
abbrev C_spec_l8All : Con := ⟨P_spec_l8All, R_spec_l8All, F_spec_l8All, false⟩
abbrev G_spec_l8All : Env := [(125, C_spec_l8Word)]
theorem g_spec_l8All : EnvOk Try.prog G_spec_l8All := (env_cons s_spec_l8Word env_nil)
abbrev c_spec_l8All_2 : Cut := ⟨i_spec_l8All_2, o_spec_l8All_2, fun x => iterF l_spec_l8All_2 lots x⟩
theorem t_spec_l8All_2 (rec x) : run T G_spec_l8All [] (nav Try.f61 [1, 0, 1, 0, 0]) (mk 16 i_spec_l8All_2 x) (loopK i_spec_l8All_2 o_spec_l8All_2 rec) = l_spec_l8All_2 rec x := by kernel_rfl
theorem k_spec_l8All_2 : CutOk Try.prog 16 (.loop (nav Try.f61 [1, 0, 1, 0, 0])) c_spec_l8All_2 :=
  loop_cut (L := []) hT g_spec_l8All t_spec_l8All_2 (plain_ok (by kernel_rfl)) _
theorem r_spec_l8All (x) : runFn T G_spec_l8All [(2, c_spec_l8All_2)] Try.f61 P_spec_l8All R_spec_l8All x = F_spec_l8All x := by kernel_rfl
theorem s_spec_l8All : CallsOk Try.prog 61 C_spec_l8All :=
  fn_calls (L := [(2, c_spec_l8All_2)]) hT g_spec_l8All Try.f61 (by kernel_rfl) (by kernel_rfl) (by kernel_rfl) (seq_ok (plain_ok (by kernel_rfl)) (seq_ok (seq_ok (plain_ok (by kernel_rfl)) (block_ok (by kernel_rfl) (loop_ok (by kernel_rfl) k_spec_l8All_2))) (plain_ok (by kernel_rfl)))) r_spec_l8All
/-! spec.l3Copy -/
abbrev P_spec_l3Copy : List PK := [.val Y22]
abbrev R_spec_l3Copy : List VK := [.s (.own 2 YI)]
def F_spec_l3Copy (x : denP P_spec_l3Copy) : Option (denV R_spec_l3Copy × denQ P_spec_l3Copy) :=
  if (([] : List (den YI)).length + x.1.length) * 8 ≤ 140737488355328 then
    let v1 := (([] : List (den YI)) ++ x.1)
    some ((v1, ()), ())
  else none
abbrev C_spec_l3Copy : Con := ⟨P_spec_l3Copy, R_spec_l3Copy, F_spec_l3Copy, false⟩
abbrev G_spec_l3Copy : Env := []
theorem g_spec_l3Copy : EnvOk Try.prog G_spec_l3Copy := env_nil
theorem r_spec_l3Copy (x) : runFn T G_spec_l3Copy [] Try.f62 P_spec_l3Copy R_spec_l3Copy x = F_spec_l3Copy x := by kernel_rfl
theorem s_spec_l3Copy : CallsOk Try.prog 62 C_spec_l3Copy :=
  fn_calls (L := []) hT g_spec_l3Copy Try.f62 (by kernel_rfl) (by kernel_rfl) (by kernel_rfl) (plain_ok (by kernel_rfl)) r_spec_l3Copy
/-! spec.PatchImage -/
abbrev P_spec_PatchImage : List PK := [.val Y22, .val YI, .val Y22]
abbrev R_spec_PatchImage : List VK := [.g [.dat YI, .dat YI, .own 2 YI]]
def F_spec_PatchImage (x : denP P_spec_PatchImage) : Option (denV R_spec_PatchImage × denQ P_spec_PatchImage) :=
  let v1 := ((x.1.length : Nat) : Int)
  (F_spec_l1In (x.2.1, (0 : Int), v1, ())).bind fun r2 =>
  if (!r2.1.1) then
    some ((((3 : Int), ((0 : Int), (([] : List (den YI)), ()))), ()), ())
  else
    let v3 := ((x.2.2.1.length : Nat) : Int)
    let v4 := (IntKind.i64.wrap (x.2.1 + v3))
    if (ltI (80 : Int) v4) = false then
      let v5 := ((x.1.length : Nat) : Int)
      if (ltI (80 : Int) v5) then
        some ((((2 : Int), ((0 : Int), (([] : List (den YI)), ()))), ()), ())
      else
        (F_spec_l8All (x.1, ())).bind fun r6 =>
        if (!r6.1.1) = false then
          (F_spec_l8All (x.2.2.1, ())).bind fun r7 =>
          if (!r7.1.1) then
            some ((((3 : Int), ((0 : Int), (([] : List (den YI)), ()))), ()), ())
          else
            if 0 ≤ (0 : Int) ∧ (0 : Int) ≤ x.2.1 ∧ x.2.1 ≤ ((x.1.length : Nat) : Int) then
              let v8 := ((x.1.drop ((0 : Int)).toNat).take ((x.2.1).toNat - ((0 : Int)).toNat))
              (F_spec_l3Copy (v8, ())).bind fun r9 =>
              if (r9.1.1.length + x.2.2.1.length) * 8 ≤ 140737488355328 then
                let v10 := (r9.1.1 ++ x.2.2.1)
                let v11 := ((x.2.2.1.length : Nat) : Int)
                let v12 := (IntKind.i64.wrap (x.2.1 + v11))
                let v13 := ((x.1.length : Nat) : Int)
                if (ltI v12 v13) then
                  if 0 ≤ v12 ∧ v12 ≤ ((x.1.length : Nat) : Int) ∧ ((x.1.length : Nat) : Int) ≤ ((x.1.length : Nat) : Int) then
                    let v14 := ((x.1.drop (v12).toNat).take ((((x.1.length : Nat) : Int)).toNat - (v12).toNat))
                    if (v10.length + v14.length) * 8 ≤ 140737488355328 then
                      let v15 := (v10 ++ v14)
                      some ((((0 : Int), ((0 : Int), (v15, ()))), ()), ())
                    else none
                  else none
                else
                  some ((((0 : Int), ((0 : Int), (v10, ()))), ()), ())
              else none
            else none
        else
          some ((((3 : Int), ((0 : Int), (([] : List (den YI)), ()))), ()), ())
    else
      some ((((2 : Int), ((0 : Int), (([] : List (den YI)), ()))), ()), ())
abbrev C_spec_PatchImage : Con := ⟨P_spec_PatchImage, R_spec_PatchImage, F_spec_PatchImage, false⟩
abbrev G_spec_PatchImage : Env := [(60, C_spec_l1In), (61, C_spec_l8All), (62, C_spec_l3Copy)]
theorem g_spec_PatchImage : EnvOk Try.prog G_spec_PatchImage := (env_cons s_spec_l1In (env_cons s_spec_l8All (env_cons s_spec_l3Copy env_nil)))
theorem r_spec_PatchImage (x) : runFn T G_spec_PatchImage [] Try.f19 P_spec_PatchImage R_spec_PatchImage x = F_spec_PatchImage x := by kernel_rfl
theorem s_spec_PatchImage : CallsOk Try.prog 19 C_spec_PatchImage :=
  fn_calls (L := []) hT g_spec_PatchImage Try.f19 (by kernel_rfl) (by kernel_rfl) (by kernel_rfl) (plain_ok (by kernel_rfl)) r_spec_PatchImage
/-! slices.Grow[int64,int64] -/
abbrev P_slices_Grow_int64 : List PK := [.val Y22, .val YI]
abbrev R_slices_Grow_int64 : List VK := [.s (.own 2 YI)]
def F_slices_Grow_int64 : denP P_slices_Grow_int64 → Option (denV R_slices_Grow_int64 × denQ P_slices_Grow_int64) := growF YI 8 2
abbrev C_slices_Grow_int64 : Con := ⟨P_slices_Grow_int64, R_slices_Grow_int64, F_slices_Grow_int64, true⟩
theorem w_slices_Grow_int64 (n : Nat) (w : World) (h0 : 0 < n) (hb : n * 8 ≤ 140737488355328) : Calls Try.prog 129 #[.slice none 0 0, .int .i64 n] w fun e w' =>
      e = .returned (.slice (some ⟨w.heap.size, 0, none⟩) 0 (grownCap w n 0 2)) ∧ ∃ c, w' = w.drew.alloc (.cells c 2) ∧ c.size = grownCap w n 0 2 * sz YI := by
  have h1 : ¬ ((n : Int) < 0) := by omega
  have h2 : RowKit.wrap64 ((0 : Int) - 0) = 0 := by unfold RowKit.wrap64; omega
  have h3 : RowKit.wrap64 ((n : Int) - 0) = n := by unfold RowKit.wrap64; omega
  have h4 : (n : Int) > 0 := by omega
  obtain ⟨c, hc, hrz⟩ := grow_append hT (st := 22) (e := 2) (it := 3) (r := ⟨Y22, [], 2, 24⟩) (q := ⟨YI, [], 0, 8⟩) (r3 := ⟨YI, [], 0, 8⟩) (by kernel_rfl) rfl rfl (by kernel_rfl) (by kernel_rfl) rfl w h0 hb (by decide)
  generalize hG : grownCap w n 0 2 = G at hc hrz ⊢
  generalize hS : G * sz YI = Sz at hc ⊢
  go_enter Try.func129, Try.ntmps129
  go_wp2_with (at_builtin; refine Lib.wpList_append_run _ rfl _ _ _ _ rfl _ _ rfl rfl _ _ (hrz _) ?_)
  go_ret
  exact ⟨rfl, c, rfl, hc⟩
theorem w_slices_Grow_int64_none (w : World) : Calls Try.prog 129 #[.slice none 0 0, .int .i64 0] w fun e w' => e = .returned (.slice none 0 0) ∧ w' = w := by
  go_enter Try.func129, Try.ntmps129
  go_wp2
  go_ret
  exact ⟨rfl, rfl⟩
theorem s_slices_Grow_int64 : CallsOk Try.prog 129 C_slices_Grow_int64 := (grow_sound (by decide) (fun n w h0 hb => w_slices_Grow_int64 n w h0 hb) w_slices_Grow_int64_none).ok (enter_ok Try.func129 (by decide +kernel) (by kernel_rfl))
/-! slices.Concat[int64,int64] -/
abbrev P_slices_Concat_int64 : List PK := [.val Y57]
abbrev R_slices_Concat_int64 : List VK := [.s (.own 2 YI)]
abbrev i_slices_Concat_int64_11 : Shp := { slots := [(6, .s (.own 2 YI)), (25, .s (.dat Y57)), (26, .s (.dat YI)), (27, .s (.dat YI))], boxes := [], rows := [] }
abbrev o_slices_Concat_int64_11 : List (Ex × Shp) := [(.exit 2, { slots := [(6, .s (.own 2 YI))], boxes := [], rows := [] })]
def l_slices_Concat_int64_11 (rec : i_slices_Concat_int64_11.den → Option (denO o_slices_Concat_int64_11)) (u11 : i_slices_Concat_int64_11.den) : Option (denO o_slices_Concat_int64_11) :=
  if (ltI u11.1.2.2.2.1 u11.1.2.2.1) then
    if 0 ≤ u11.1.2.2.2.1 then
      ((u11.1.2.1)[(u11.1.2.2.2.1).toNat]?).bind fun y12 =>
      if (u11.1.1.length + y12.length) * 8 ≤ 140737488355328 then
        let v13 := (u11.1.1 ++ y12)
        let v14 := (IntKind.i64.wrap (u11.1.2.2.2.1 + (1 : Int)))
        rec ((v13, (u11.1.2.1, (u11.1.2.2.1, (v14, ())))), ((), ()))
      else none
    else none
  else
    some (.inl ((u11.1.1, ()), ((), ())))
def L_slices_Concat_int64_11 (x : i_slices_Concat_int64_11.den) : Option (denO o_slices_Concat_int64_11) := iterF l_slices_Concat_int64_11 lots x
abbrev i_slices_Concat_int64_3 : Shp := { slots := [(0, .s (.dat Y57)), (3, .s (.dat YI)), (9, .s (.dat Y57)), (10, .s (.dat YI)), (11, .s (.dat YI))], boxes := [], rows := [] }
abbrev o_slices_Concat_int64_3 : List (Ex × Shp) := [(.exit 0, { slots := [(0, .s (.dat Y57)), (3, .s (.dat YI))], boxes := [], rows := [] })]
def l_slices_Concat_int64_3 (rec : i_slices_Concat_int64_3.den → Option (denO o_slices_Concat_int64_3)) (u3 : i_slices_Concat_int64_3.den) : Option (denO o_slices_Concat_int64_3) :=
  if (ltI u3.1.2.2.2.2.1 u3.1.2.2.2.1) then
    if 0 ≤ u3.1.2.2.2.2.1 then
      ((u3.1.2.2.1)[(u3.1.2.2.2.2.1).toNat]?).bind fun y3 =>
      let v4 := ((y3.length : Nat) : Int)
      let v5 := (IntKind.i64.wrap (u3.1.2.1 + v4))
      if (ltI v5 (0 : Int)) then none else
      let v6 := (IntKind.i64.wrap (u3.1.2.2.2.2.1 + (1 : Int)))
      rec ((u3.1.1, (v5, (u3.1.2.2.1, (u3.1.2.2.2.1, (v6, ()))))), ((), ()))
    else none
  else
    some (.inl ((u3.1.1, (u3.1.2.1, ())), ((), ())))
def L_slices_Concat_int64_3 (x : i_slices_Concat_int64_3.den) : Option (denO o_slices_Concat_int64_3) := iterF l_slices_Concat_int64_3 lots x
def F_slices_Concat_int64 (x : denP P_slices_Concat_int64) : Option (denV R_slices_Concat_int64 × denQ P_slices_Concat_int64) :=
  let v1 := ((x.1.length : Nat) : Int)
  (L_slices_Concat_int64_3 ((x.1, ((0 : Int), (x.1, (v1, ((0 : Int), ()))))), ((), ()))).bind fun z7 =>
  match z7 with
  | .inl x8 =>
    (F_slices_Grow_int64 (([] : List (den YI)), x8.1.2.1, ())).bind fun r9 =>
    let v10 := ((x8.1.1.length : Nat) : Int)
    (L_slices_Concat_int64_11 ((r9.1.1, (x8.1.1, (v10, ((0 : Int), ())))), ((), ()))).bind fun z15 =>
    match z15 with
    | .inl x16 =>
      some ((x16.1.1, ()), ())
    | .inr z15_ =>
      none
  | .inr z7_ =>
    none
abbrev C_slices_Concat_int64 : Con := ⟨P_slices_Concat_int64, R_slices_Concat_int64, F_slices_Concat_int64, false⟩
abbrev G_slices_Concat_int64 : Env := [(129, C_slices_Grow_int64)]
theorem g_slices_Concat_int64 : EnvOk Try.prog G_slices_Concat_int64 := (env_cons s_slices_Grow_int64 env_nil)
abbrev c_slices_Concat_int64_11 : Cut := ⟨i_slices_Concat_int64_11, o_slices_Concat_int64_11, fun x => iterF l_slices_Concat_int64_11 lots x⟩
theorem t_slices_Concat_int64_11 (rec x) : run T G_slices_Concat_int64 [] (nav Try.f65 [1, 1, 1, 1, 0, 1, 0, 0]) (mk 36 i_slices_Concat_int64_11 x) (loopK i_slices_Concat_int64_11 o_slices_Concat_int64_11 rec) = l_slices_Concat_int64_11 rec x := by kernel_rfl
theorem k_slices_Concat_int64_11 : CutOk Try.prog 36 (.loop (nav Try.f65 [1, 1, 1, 1, 0, 1, 0, 0])) c_slices_Concat_int64_11 :=
  loop_cut (L := []) hT g_slices_Concat_int64 t_slices_Concat_int64_11 (plain_ok (by kernel_rfl)) _
abbrev c_slices_Concat_int64_3 : Cut := ⟨i_slices_Concat_int64_3, o_slices_Concat_int64_3, fun x => iterF l_slices_Concat_int64_3 lots x⟩
theorem t_slices_Concat_int64_3 (rec x) : run T G_slices_Concat_int64 [] (nav Try.f65 [1, 1, 0, 1, 0, 0]) (mk 36 i_slices_Concat_int64_3 x) (loopK i_slices_Concat_int64_3 o_slices_Concat_int64_3 rec) = l_slices_Concat_int64_3 rec x := by kernel_rfl
theorem k_slices_Concat_int64_3 : CutOk Try.prog 36 (.loop (nav Try.f65 [1, 1, 0, 1, 0, 0])) c_slices_Concat_int64_3 :=
  loop_cut (L := []) hT g_slices_Concat_int64 t_slices_Concat_int64_3 (plain_ok (by kernel_rfl)) _
theorem r_slices_Concat_int64 (x) : runFn T G_slices_Concat_int64 [(11, c_slices_Concat_int64_11), (3, c_slices_Concat_int64_3)] Try.f65 P_slices_Concat_int64 R_slices_Concat_int64 x = F_slices_Concat_int64 x := by kernel_rfl
theorem s_slices_Concat_int64 : CallsOk Try.prog 65 C_slices_Concat_int64 :=
  fn_calls (L := [(11, c_slices_Concat_int64_11), (3, c_slices_Concat_int64_3)]) hT g_slices_Concat_int64 Try.f65 (by kernel_rfl) (by kernel_rfl) (by kernel_rfl) (seq_ok (plain_ok (by kernel_rfl)) (seq_ok (plain_ok (by kernel_rfl)) (seq_ok (seq_ok (plain_ok (by kernel_rfl)) (block_ok (by kernel_rfl) (loop_ok (by kernel_rfl) k_slices_Concat_int64_3))) (seq_ok (plain_ok (by kernel_rfl)) (seq_ok (seq_ok (plain_ok (by kernel_rfl)) (block_ok (by kernel_rfl) (loop_ok (by kernel_rfl) k_slices_Concat_int64_11))) (plain_ok (by kernel_rfl))))))) r_slices_Concat_int64
/-! impl.PatchImage -/
abbrev P_impl_PatchImage : List PK := [.val Y22, .val YI, .val Y22]
abbrev R_impl_PatchImage : List VK := [.g [.dat YI, .dat YI, .own 2 YI]]
def F_impl_PatchImage (x : denP P_impl_PatchImage) : Option (denV R_impl_PatchImage × denQ P_impl_PatchImage) :=
  let v1 := ((x.1.length : Nat) : Int)
  (F_impl_within (x.2.1, (0 : Int), v1, ())).bind fun r2 =>
  if (!r2.1.1) then
    some ((((3 : Int), ((0 : Int), (([] : List (den YI)), ()))), ()), ())
  else
    let v3 := ((x.1.length : Nat) : Int)
    let v4 := ((x.2.2.1.length : Nat) : Int)
    let v5 := (IntKind.i64.wrap (x.2.1 + v4))
    let v6 := (if v5 > v3 then v5 else v3)
    if (ltI (80 : Int) v6) then
      some ((((2 : Int), ((0 : Int), (([] : List (den YI)), ()))), ()), ())
    else
      (F_impl_areWords (x.1, ())).bind fun r7 =>
      if (!r7.1.1) = false then
        (F_impl_areWords (x.2.2.1, ())).bind fun r8 =>
        if (!r8.1.1) then
          some ((((3 : Int), ((0 : Int), (([] : List (den YI)), ()))), ()), ())
        else
          if 0 ≤ (0 : Int) ∧ (0 : Int) ≤ x.2.1 ∧ x.2.1 ≤ ((x.1.length : Nat) : Int) then
            let v9 := ((x.1.drop ((0 : Int)).toNat).take ((x.2.1).toNat - ((0 : Int)).toNat))
            (F_slices_Concat_int64 ([v9, x.2.2.1], ())).bind fun r10 =>
            let v11 := ((r10.1.1.length : Nat) : Int)
            if (ltI v11 v6) then
              let v12 := ((r10.1.1.length : Nat) : Int)
              if 0 ≤ v12 ∧ v12 ≤ ((x.1.length : Nat) : Int) ∧ ((x.1.length : Nat) : Int) ≤ ((x.1.length : Nat) : Int) then
                let v13 := ((x.1.drop (v12).toNat).take ((((x.1.length : Nat) : Int)).toNat - (v12).toNat))
                if (r10.1.1.length + v13.length) * 8 ≤ 140737488355328 then
                  let v14 := (r10.1.1 ++ v13)
                  some ((((0 : Int), ((0 : Int), (v14, ()))), ()), ())
                else none
              else none
            else
              some ((((0 : Int), ((0 : Int), (r10.1.1, ()))), ()), ())
          else none
      else
        some ((((3 : Int), ((0 : Int), (([] : List (den YI)), ()))), ()), ())
abbrev C_impl_PatchImage : Con := ⟨P_impl_PatchImage, R_impl_PatchImage, F_impl_PatchImage, false⟩
abbrev G_impl_PatchImage : Env := [(63, C_impl_within), (64, C_impl_areWords), (65, C_slices_Concat_int64)]
theorem g_impl_PatchImage : EnvOk Try.prog G_impl_PatchImage := (env_cons s_impl_within (env_cons s_impl_areWords (env_cons s_slices_Concat_int64 env_nil)))
theorem r_impl_PatchImage (x) : runFn T G_impl_PatchImage [] Try.f20 P_impl_PatchImage R_impl_PatchImage x = F_impl_PatchImage x := by kernel_rfl
theorem s_impl_PatchImage : CallsOk Try.prog 20 C_impl_PatchImage :=
  fn_calls (L := []) hT g_impl_PatchImage Try.f20 (by kernel_rfl) (by kernel_rfl) (by kernel_rfl) (plain_ok (by kernel_rfl)) r_impl_PatchImage
/-! laws.eqWordsResult -/
abbrev P_laws_eqWordsResult : List PK := [.val Y30, .val Y30]
abbrev R_laws_eqWordsResult : List VK := [.s (.dat .bool)]
def F_laws_eqWordsResult (x : denP P_laws_eqWordsResult) : Option (denV R_laws_eqWordsResult × denQ P_laws_eqWordsResult) :=
  if (x.1.1 != x.2.1.1) then
    some ((false, ()), ())
  else
    if (x.1.2.1 != x.2.1.2.1) then
      some ((false, ()), ())
    else
      (F_laws_eqInt64S (x.1.2.2.1, x.2.1.2.2.1, ())).bind fun r1 =>
      if (!r1.1.1) then
        some ((false, ()), ())
      else
        some ((true, ()), ())
abbrev C_laws_eqWordsResult : Con := ⟨P_laws_eqWordsResult, R_laws_eqWordsResult, F_laws_eqWordsResult, false⟩
abbrev G_laws_eqWordsResult : Env := [(18, C_laws_eqInt64S)]
theorem g_laws_eqWordsResult : EnvOk Try.prog G_laws_eqWordsResult := (env_cons s_laws_eqInt64S env_nil)
theorem r_laws_eqWordsResult (x) : runFn T G_laws_eqWordsResult [] Try.f21 P_laws_eqWordsResult R_laws_eqWordsResult x = F_laws_eqWordsResult x := by kernel_rfl
theorem s_laws_eqWordsResult : CallsOk Try.prog 21 C_laws_eqWordsResult :=
  fn_calls (L := []) hT g_laws_eqWordsResult Try.f21 (by kernel_rfl) (by kernel_rfl) (by kernel_rfl) (plain_ok (by kernel_rfl)) r_laws_eqWordsResult
/-! laws.markWordsResult -/
abbrev P_laws_markWordsResult : List PK := [.agg [.dat YI, .dat YI, .own 2 YI], .val YI]
abbrev R_laws_markWordsResult : List VK := [.s (.dat YI)]
def F_laws_markWordsResult (x : denP P_laws_markWordsResult) : Option (denV R_laws_markWordsResult × denQ P_laws_markWordsResult) :=
  (F_laws_markInt64S (x.1.2.2.1, x.2.1, ())).bind fun r1 =>
  if ((x.1.2.2.1.length == r1.2.1.length && true) && true) = true then
    if ((x.1.2.2.1.length == r1.2.1.length && true) && true) = true then
      some ((r1.1.1, ()), ((r1.2.1, ()), ()))
    else none
  else none
abbrev C_laws_markWordsResult : Con := ⟨P_laws_markWordsResult, R_laws_markWordsResult, F_laws_markWordsResult, false⟩
abbrev G_laws_markWordsResult : Env := [(22, C_laws_markInt64S)]
theorem g_laws_markWordsResult : EnvOk Try.prog G_laws_markWordsResult := (env_cons s_laws_markInt64S env_nil)
theorem r_laws_markWordsResult (x) : runFn T G_laws_markWordsResult [] Try.f23 P_laws_markWordsResult R_laws_markWordsResult x = F_laws_markWordsResult x := by kernel_rfl
theorem s_laws_markWordsResult : CallsOk Try.prog 23 C_laws_markWordsResult :=
  fn_calls (L := []) hT g_laws_markWordsResult Try.f23 (by kernel_rfl) (by kernel_rfl) (by kernel_rfl) (plain_ok (by kernel_rfl)) r_laws_markWordsResult
/-! laws.heldWordsResult -/
abbrev P_laws_heldWordsResult : List PK := [.val Y30, .val YI]
abbrev R_laws_heldWordsResult : List VK := [.s (.dat YI)]
def F_laws_heldWordsResult (x : denP P_laws_heldWordsResult) : Option (denV R_laws_heldWordsResult × denQ P_laws_heldWordsResult) :=
  (F_laws_heldInt64S (x.1.2.2.1, x.2.1, ())).bind fun r1 =>
  if (ltI r1.1.1 (0 : Int)) then
    some (((-1 : Int), ()), ())
  else
    some ((r1.1.1, ()), ())
abbrev C_laws_heldWordsResult : Con := ⟨P_laws_heldWordsResult, R_laws_heldWordsResult, F_laws_heldWordsResult, false⟩
abbrev G_laws_heldWordsResult : Env := [(66, C_laws_heldInt64S)]
theorem g_laws_heldWordsResult : EnvOk Try.prog G_laws_heldWordsResult := (env_cons s_laws_heldInt64S env_nil)
theorem r_laws_heldWordsResult (x) : runFn T G_laws_heldWordsResult [] Try.f24 P_laws_heldWordsResult R_laws_heldWordsResult x = F_laws_heldWordsResult x := by kernel_rfl
theorem s_laws_heldWordsResult : CallsOk Try.prog 24 C_laws_heldWordsResult :=
  fn_calls (L := []) hT g_laws_heldWordsResult Try.f24 (by kernel_rfl) (by kernel_rfl) (by kernel_rfl) (plain_ok (by kernel_rfl)) r_laws_heldWordsResult
/-! laws.FnExactPatchImage -/
abbrev P_laws_FnExactPatchImage : List PK := [.val Y22, .val YI, .val Y22]
abbrev R_laws_FnExactPatchImage : List VK := [.s (.dat .bool)]
def F_laws_FnExactPatchImage (x : denP P_laws_FnExactPatchImage) : Option (denV R_laws_FnExactPatchImage × denQ P_laws_FnExactPatchImage) :=
  let v1 := ((x.1.length : Nat) : Int)
  if (ltI (1048576 : Int) v1) then
    some ((true, ()), ())
  else
    let v2 := ((x.2.2.1.length : Nat) : Int)
    if (ltI (1048576 : Int) v2) then
      some ((true, ()), ())
    else
      (F_laws_toInt64S (x.1, ())).bind fun r3 =>
      (F_laws_toInt64S (x.2.2.1, ())).bind fun r4 =>
      (F_spec_PatchImage (r3.1.1, x.2.1, r4.1.1, ())).bind fun r5 =>
      (F_laws_toInt64S (x.1, ())).bind fun r6 =>
      (F_laws_toInt64S (x.2.2.1, ())).bind fun r7 =>
      (F_impl_PatchImage (r6.1.1, x.2.1, r7.1.1, ())).bind fun r8 =>
      (F_laws_eqWordsResult ((r8.1.1.1, (r8.1.1.2.1, (r8.1.1.2.2.1, ()))), (r5.1.1.1, (r5.1.1.2.1, (r5.1.1.2.2.1, ()))), ())).bind fun r9 =>
      if (!r9.1.1) then
        some ((false, ()), ())
      else
        (F_laws_toInt64S (x.1, ())).bind fun r10 =>
        (F_laws_eqInt64S (r6.1.1, r10.1.1, ())).bind fun r11 =>
        if (!r11.1.1) then
          some ((false, ()), ())
        else
          (F_laws_toInt64S (x.2.2.1, ())).bind fun r12 =>
          (F_laws_eqInt64S (r7.1.1, r12.1.1, ())).bind fun r13 =>
          if (!r13.1.1) then
            some ((false, ()), ())
          else
            (F_laws_markInt64S (r6.1.1, (1 : Int), ())).bind fun r14 =>
            if ((r6.1.1.length == r14.2.1.length && true) && true) = true then
              (F_laws_markInt64S (r7.1.1, r14.1.1, ())).bind fun r15 =>
              if ((r7.1.1.length == r15.2.1.length && true) && true) = true then
                if (ltI r15.1.1 (0 : Int)) = false then
                  (F_laws_eqWordsResult ((r8.1.1.1, (r8.1.1.2.1, (r8.1.1.2.2.1, ()))), (r5.1.1.1, (r5.1.1.2.1, (r5.1.1.2.2.1, ()))), ())).bind fun r16 =>
                  if (!r16.1.1) then
                    some ((false, ()), ())
                  else
                    (F_laws_markWordsResult ((r8.1.1.1, (r8.1.1.2.1, (r8.1.1.2.2.1, ()))), (1 : Int), ())).bind fun r17 =>
                    if (((r8.1.1.2.2.1.length == r17.2.1.1.length && true) && true) && true) = true then
                      (F_laws_heldWordsResult ((r8.1.1.1, (r8.1.1.2.1, (r17.2.1.1, ()))), (1 : Int), ())).bind fun r18 =>
                      if (ltI r18.1.1 (0 : Int)) then
                        some ((false, ()), ())
                      else
                        if (r18.1.1 != r17.1.1) then
                          some ((false, ()), ())
                        else
                          (F_laws_toInt64S (x.1, ())).bind fun r19 =>
                          (F_laws_toInt64S (x.2.2.1, ())).bind fun r20 =>
                          (F_impl_PatchImage (r19.1.1, x.2.1, r20.1.1, ())).bind fun r21 =>
                          (F_laws_eqWordsResult ((r21.1.1.1, (r21.1.1.2.1, (r21.1.1.2.2.1, ()))), (r5.1.1.1, (r5.1.1.2.1, (r5.1.1.2.2.1, ()))), ())).bind fun r22 =>
                          if (!r22.1.1) then
                            some ((false, ()), ())
                          else
                            (F_laws_heldWordsResult ((r8.1.1.1, (r8.1.1.2.1, (r17.2.1.1, ()))), (1 : Int), ())).bind fun r23 =>
                            if (ltI r23.1.1 (0 : Int)) then
                              some ((false, ()), ())
                            else
                              if (r23.1.1 != r17.1.1) then
                                some ((false, ()), ())
                              else
                                some ((true, ()), ())
                    else none
                else
                  some ((false, ()), ())
              else none
            else none
abbrev C_laws_FnExactPatchImage : Con := ⟨P_laws_FnExactPatchImage, R_laws_FnExactPatchImage, F_laws_FnExactPatchImage, false⟩
abbrev G_laws_FnExactPatchImage : Env := [(15, C_laws_toInt64S), (18, C_laws_eqInt64S), (19, C_spec_PatchImage), (20, C_impl_PatchImage), (21, C_laws_eqWordsResult), (22, C_laws_markInt64S), (23, C_laws_markWordsResult), (24, C_laws_heldWordsResult)]
theorem g_laws_FnExactPatchImage : EnvOk Try.prog G_laws_FnExactPatchImage := (env_cons s_laws_toInt64S (env_cons s_laws_eqInt64S (env_cons s_spec_PatchImage (env_cons s_impl_PatchImage (env_cons s_laws_eqWordsResult (env_cons s_laws_markInt64S (env_cons s_laws_markWordsResult (env_cons s_laws_heldWordsResult env_nil))))))))
theorem r_laws_FnExactPatchImage (x) : runFn T G_laws_FnExactPatchImage [] Try.f4 P_laws_FnExactPatchImage R_laws_FnExactPatchImage x = F_laws_FnExactPatchImage x := by kernel_rfl
theorem s_laws_FnExactPatchImage : CallsOk Try.prog 4 C_laws_FnExactPatchImage :=
  fn_calls (L := []) hT g_laws_FnExactPatchImage Try.f4 (by kernel_rfl) (by kernel_rfl) (by kernel_rfl) (plain_ok (by kernel_rfl)) r_laws_FnExactPatchImage
theorem q_laws_FnExactPatchImage : Sound Try.prog 4 C_laws_FnExactPatchImage :=
  fn_snd (L := []) hT g_laws_FnExactPatchImage Try.f4 (by kernel_rfl) (by kernel_rfl) (plain_ok (by kernel_rfl)) r_laws_FnExactPatchImage
end Go.Proofs.Yteddlkdbefloaaa
