/- The functions of the laws, each as a plain function of data (F), and that the program's text does what F says. Printed by a program (wip/tools/gen.py). -/
import Derived.Test.YteddlkdbefloaaaGf
namespace Go.Proofs.Yteddlkdbefloaaa
open Go Go.RowKit S Go.Proofs
set_option maxRecDepth 100000
set_option linter.unusedVariables false
/-! laws.lwBig -/
abbrev P_laws_lwBig : List PK := [.val Y53]
abbrev R_laws_lwBig : List VK := [.s (.dat .bool)]
def F_laws_lwBig (x : denP P_laws_lwBig) : Option (denV R_laws_lwBig × denQ P_laws_lwBig) :=
  let v1 := ((x.1.length : Nat) : Int)
  some (((ltI (1048576 : Int) v1), ()), ())
abbrev C_laws_lwBig : Con := ⟨P_laws_lwBig, R_laws_lwBig, F_laws_lwBig, false⟩
abbrev G_laws_lwBig : Env := []
theorem g_laws_lwBig : EnvOk Try.prog G_laws_lwBig := env_nil
theorem r_laws_lwBig (x) : runFn T G_laws_lwBig [] Try.f35 P_laws_lwBig R_laws_lwBig x = F_laws_lwBig x := by kernel_rfl
theorem s_laws_lwBig : CallsOk Try.prog 35 C_laws_lwBig :=
  fn_calls (L := []) hT g_laws_lwBig Try.f35 (by kernel_rfl) (by kernel_rfl) (by kernel_rfl) (plain_ok (by kernel_rfl)) r_laws_lwBig
/-! spec.l1Source -/
abbrev P_spec_l1Source : List PK := [.val Y53]
abbrev R_spec_l1Source : List VK := [.s (.bx Y154)]
def F_spec_l1Source (x : denP P_spec_l1Source) : Option (denV R_spec_l1Source × denQ P_spec_l1Source) := some (((x.1, (0 : Int), ()), ()), ())
abbrev C_spec_l1Source : Con := ⟨P_spec_l1Source, R_spec_l1Source, F_spec_l1Source, false⟩
theorem w_spec_l1Source (A : Option Addr) (n cap : Nat) (w : World) : Calls Try.prog 78 #[.slice A n cap] w fun e w' => e = .returned (.pointer (some ⟨w.heap.size, 0, none⟩)) ∧ w' = w.alloc (.cells #[.slice A n cap, .int .i64 0] 155) := by
  go_enter Try.func78, Try.ntmps78
  go_wp2
  go_ret
  exact ⟨rfl, rfl⟩
theorem s_spec_l1Source : CallsOk Try.prog 78 C_spec_l1Source := (src_sound w_spec_l1Source).ok (enter_ok Try.func78 (by decide +kernel) (by kernel_rfl))
/-! spec.l1Next -/
abbrev P_spec_l1Next : List PK := [.box [.dat Y53, .dat YI] [.dat Y53, .dat YI], .val YI]
abbrev R_spec_l1Next : List VK := [.s (.dat YI)]
def F_spec_l1Next (x : denP P_spec_l1Next) : Option (denV R_spec_l1Next × denQ P_spec_l1Next) :=
  let v1 := (IntKind.i64.wrap (x.1.2.1 + (1 : Int)))
  if (ltI x.2.1 (1 : Int)) then
    some (((0 : Int), ()), ((x.1.1, (v1, ())), ()))
  else
    let v2 := (IntKind.i64.wrap (v1 - (1 : Int)))
    let v3 := ((x.1.1.length : Nat) : Int)
    if (v3 == (0 : Int)) then
      let v4 := (IntKind.i64.wrap (v2 * (7 : Int)))
      if x.2.1 = 0 then none else
      let v5 := ((v4).tmod x.2.1)
      some ((v5, ()), ((x.1.1, (v1, ())), ()))
    else
      if v3 = 0 then none else
      let v6 := ((v2).tmod v3)
      if 0 ≤ v6 then
        ((x.1.1)[(v6).toNat]?).bind fun y7 =>
        let v8 := (IntKind.i64.wrap y7)
        if v3 = 0 then none else
        let v9 := (IntKind.i64.wrap ((v2).tdiv v3))
        let v10 := (IntKind.i64.wrap (v9 * (37 : Int)))
        let v11 := (IntKind.i64.wrap (v8 + v10))
        if (ltI (200 : Int) x.2.1) then
          let v12 := (IntKind.i64.wrap (v11 * (251 : Int)))
          let v13 := (IntKind.i64.wrap (v2 + (1 : Int)))
          if v3 = 0 then none else
          let v14 := ((v13).tmod v3)
          if 0 ≤ v14 then
            ((x.1.1)[(v14).toNat]?).bind fun y15 =>
            let v16 := (IntKind.i64.wrap y15)
            let v17 := (IntKind.i64.wrap (v16 * (13 : Int)))
            let v18 := (IntKind.i64.wrap (v12 + v17))
            let v19 := (IntKind.i64.wrap (v18 + v2))
            if x.2.1 = 0 then none else
            let v20 := ((v19).tmod x.2.1)
            some ((v20, ()), ((x.1.1, (v1, ())), ()))
          else none
        else
          if x.2.1 = 0 then none else
          let v21 := ((v11).tmod x.2.1)
          some ((v21, ()), ((x.1.1, (v1, ())), ()))
      else none
abbrev C_spec_l1Next : Con := ⟨P_spec_l1Next, R_spec_l1Next, F_spec_l1Next, false⟩
abbrev G_spec_l1Next : Env := []
theorem g_spec_l1Next : EnvOk Try.prog G_spec_l1Next := env_nil
theorem r_spec_l1Next (x) : runFn T G_spec_l1Next [] Try.f81 P_spec_l1Next R_spec_l1Next x = F_spec_l1Next x := by kernel_rfl
theorem s_spec_l1Next : CallsOk Try.prog 81 C_spec_l1Next :=
  fn_calls (L := []) hT g_spec_l1Next Try.f81 (by kernel_rfl) (by kernel_rfl) (by kernel_rfl) (plain_ok (by kernel_rfl)) r_spec_l1Next
/-! spec.l1Pick -/
abbrev P_spec_l1Pick : List PK := [.box [.dat Y53, .dat YI] [.dat Y53, .dat YI], .val Y22]
abbrev R_spec_l1Pick : List VK := [.s (.dat YI)]
def F_spec_l1Pick (x : denP P_spec_l1Pick) : Option (denV R_spec_l1Pick × denQ P_spec_l1Pick) :=
  let v1 := ((x.2.1.length : Nat) : Int)
  (F_spec_l1Next ((x.1.1, (x.1.2.1, ())), v1, ())).bind fun r2 =>
  if 0 ≤ r2.1.1 then
    ((x.2.1)[(r2.1.1).toNat]?).bind fun y3 =>
    some ((y3, ()), ((r2.2.1.1, (r2.2.1.2.1, ())), ()))
  else none
abbrev C_spec_l1Pick : Con := ⟨P_spec_l1Pick, R_spec_l1Pick, F_spec_l1Pick, false⟩
abbrev G_spec_l1Pick : Env := [(81, C_spec_l1Next)]
theorem g_spec_l1Pick : EnvOk Try.prog G_spec_l1Pick := (env_cons s_spec_l1Next env_nil)
theorem r_spec_l1Pick (x) : runFn T G_spec_l1Pick [] Try.f80 P_spec_l1Pick R_spec_l1Pick x = F_spec_l1Pick x := by kernel_rfl
theorem s_spec_l1Pick : CallsOk Try.prog 80 C_spec_l1Pick :=
  fn_calls (L := []) hT g_spec_l1Pick Try.f80 (by kernel_rfl) (by kernel_rfl) (by kernel_rfl) (plain_ok (by kernel_rfl)) r_spec_l1Pick
/-! spec.l2Bare -/
abbrev P_spec_l2Bare : List PK := [.val YI]
abbrev R_spec_l2Bare : List VK := [.s (.dat .bool), .s (.dat .bool), .s (.dat .bool)]
def F_spec_l2Bare (x : denP P_spec_l2Bare) : Option (denV R_spec_l2Bare × denQ P_spec_l2Bare) :=
  if (x.1 == (13 : Int)) then
    some ((false, true, false, ()), ())
  else
    if (x.1 == (19 : Int)) then
      some ((false, true, false, ()), ())
    else
      if (x.1 == (21 : Int)) then
        some ((false, true, false, ()), ())
      else
        if (x.1 == (22 : Int)) then
          some ((true, false, false, ()), ())
        else
          if (x.1 == (23 : Int)) then
            some ((true, true, true, ()), ())
          else
            if (x.1 == (24 : Int)) then
              some ((true, true, true, ()), ())
            else
              if (x.1 == (25 : Int)) then
                some ((true, true, true, ()), ())
              else
                if (x.1 == (26 : Int)) then
                  some ((true, true, true, ()), ())
                else
                  some ((false, false, false, ()), ())
abbrev C_spec_l2Bare : Con := ⟨P_spec_l2Bare, R_spec_l2Bare, F_spec_l2Bare, false⟩
abbrev G_spec_l2Bare : Env := []
theorem g_spec_l2Bare : EnvOk Try.prog G_spec_l2Bare := env_nil
theorem r_spec_l2Bare (x) : runFn T G_spec_l2Bare [] Try.f189 P_spec_l2Bare R_spec_l2Bare x = F_spec_l2Bare x := by kernel_rfl
theorem s_spec_l2Bare : CallsOk Try.prog 189 C_spec_l2Bare :=
  fn_calls (L := []) hT g_spec_l2Bare Try.f189 (by kernel_rfl) (by kernel_rfl) (by kernel_rfl) (plain_ok (by kernel_rfl)) r_spec_l2Bare
/-! spec.l2Ins -/
abbrev P_spec_l2Ins : List PK := [.box [.dat Y53, .dat YI] [.dat Y53, .dat YI]]
abbrev R_spec_l2Ins : List VK := [.s (.dat Y159)]
def F_spec_l2Ins (x : denP P_spec_l2Ins) : Option (denV R_spec_l2Ins × denQ P_spec_l2Ins) :=
  (F_spec_l1Next ((x.1.1, (x.1.2.1, ())), (26 : Int), ())).bind fun r1 =>
  let v2 := (IntKind.i64.wrap ((1 : Int) + r1.1.1))
  (F_spec_l1Next ((r1.2.1.1, (r1.2.1.2.1, ())), (16 : Int), ())).bind fun r3 =>
  (F_spec_l1Next ((r3.2.1.1, (r3.2.1.2.1, ())), (16 : Int), ())).bind fun r4 =>
  (F_spec_l1Next ((r4.2.1.1, (r4.2.1.2.1, ())), (16 : Int), ())).bind fun r5 =>
  (F_spec_l1Next ((r5.2.1.1, (r5.2.1.2.1, ())), (64 : Int), ())).bind fun r6 =>
  (F_spec_l1Next ((r6.2.1.1, (r6.2.1.2.1, ())), (8 : Int), ())).bind fun r7 =>
  let v8 := (IntKind.i64.wrap ((65535 : Int) - r7.1.1))
  (F_spec_l1Pick ((r7.2.1.1, (r7.2.1.2.1, ())), [r5.1.1, r6.1.1, v8], ())).bind fun r9 =>
  (F_spec_l2Bare (v2, ())).bind fun r10 =>
  if r10.1.1 then
    if r10.1.2.1 then
      if r10.1.2.2.1 then
        if (leI v2 (11 : Int)) then
          let v11 := (((0 : Int)).tmod (16 : Int))
          if (v2 == (21 : Int)) = false then
            if (v2 == (22 : Int)) then
              let v12 := ((v11).tmod (11 : Int))
              some (((v2, ((0 : Int), ((0 : Int), (v12, ())))), ()), ((r9.2.1.1, (r9.2.1.2.1, ())), ()))
            else
              some (((v2, ((0 : Int), ((0 : Int), (v11, ())))), ()), ((r9.2.1.1, (r9.2.1.2.1, ())), ()))
          else
            let v13 := ((v11).tmod (11 : Int))
            some (((v2, ((0 : Int), ((0 : Int), (v13, ())))), ()), ((r9.2.1.1, (r9.2.1.2.1, ())), ()))
        else
          if (v2 == (21 : Int)) = false then
            if (v2 == (22 : Int)) then
              let v14 := (((0 : Int)).tmod (11 : Int))
              some (((v2, ((0 : Int), ((0 : Int), (v14, ())))), ()), ((r9.2.1.1, (r9.2.1.2.1, ())), ()))
            else
              some (((v2, ((0 : Int), ((0 : Int), ((0 : Int), ())))), ()), ((r9.2.1.1, (r9.2.1.2.1, ())), ()))
          else
            let v15 := (((0 : Int)).tmod (11 : Int))
            some (((v2, ((0 : Int), ((0 : Int), (v15, ())))), ()), ((r9.2.1.1, (r9.2.1.2.1, ())), ()))
      else
        if (leI v2 (11 : Int)) then
          let v16 := ((r9.1.1).tmod (16 : Int))
          if (v2 == (21 : Int)) = false then
            if (v2 == (22 : Int)) then
              let v17 := ((v16).tmod (11 : Int))
              some (((v2, ((0 : Int), ((0 : Int), (v17, ())))), ()), ((r9.2.1.1, (r9.2.1.2.1, ())), ()))
            else
              some (((v2, ((0 : Int), ((0 : Int), (v16, ())))), ()), ((r9.2.1.1, (r9.2.1.2.1, ())), ()))
          else
            let v18 := ((v16).tmod (11 : Int))
            some (((v2, ((0 : Int), ((0 : Int), (v18, ())))), ()), ((r9.2.1.1, (r9.2.1.2.1, ())), ()))
        else
          if (v2 == (21 : Int)) = false then
            if (v2 == (22 : Int)) then
              let v19 := ((r9.1.1).tmod (11 : Int))
              some (((v2, ((0 : Int), ((0 : Int), (v19, ())))), ()), ((r9.2.1.1, (r9.2.1.2.1, ())), ()))
            else
              some (((v2, ((0 : Int), ((0 : Int), (r9.1.1, ())))), ()), ((r9.2.1.1, (r9.2.1.2.1, ())), ()))
          else
            let v20 := ((r9.1.1).tmod (11 : Int))
            some (((v2, ((0 : Int), ((0 : Int), (v20, ())))), ()), ((r9.2.1.1, (r9.2.1.2.1, ())), ()))
    else
      if r10.1.2.2.1 then
        if (leI v2 (11 : Int)) then
          let v21 := (((0 : Int)).tmod (16 : Int))
          if (v2 == (21 : Int)) = false then
            if (v2 == (22 : Int)) then
              let v22 := ((v21).tmod (11 : Int))
              some (((v2, ((0 : Int), (r4.1.1, (v22, ())))), ()), ((r9.2.1.1, (r9.2.1.2.1, ())), ()))
            else
              some (((v2, ((0 : Int), (r4.1.1, (v21, ())))), ()), ((r9.2.1.1, (r9.2.1.2.1, ())), ()))
          else
            let v23 := ((v21).tmod (11 : Int))
            some (((v2, ((0 : Int), (r4.1.1, (v23, ())))), ()), ((r9.2.1.1, (r9.2.1.2.1, ())), ()))
        else
          if (v2 == (21 : Int)) = false then
            if (v2 == (22 : Int)) then
              let v24 := (((0 : Int)).tmod (11 : Int))
              some (((v2, ((0 : Int), (r4.1.1, (v24, ())))), ()), ((r9.2.1.1, (r9.2.1.2.1, ())), ()))
            else
              some (((v2, ((0 : Int), (r4.1.1, ((0 : Int), ())))), ()), ((r9.2.1.1, (r9.2.1.2.1, ())), ()))
          else
            let v25 := (((0 : Int)).tmod (11 : Int))
            some (((v2, ((0 : Int), (r4.1.1, (v25, ())))), ()), ((r9.2.1.1, (r9.2.1.2.1, ())), ()))
      else
        if (leI v2 (11 : Int)) then
          let v26 := ((r9.1.1).tmod (16 : Int))
          if (v2 == (21 : Int)) = false then
            if (v2 == (22 : Int)) then
              let v27 := ((v26).tmod (11 : Int))
              some (((v2, ((0 : Int), (r4.1.1, (v27, ())))), ()), ((r9.2.1.1, (r9.2.1.2.1, ())), ()))
            else
              some (((v2, ((0 : Int), (r4.1.1, (v26, ())))), ()), ((r9.2.1.1, (r9.2.1.2.1, ())), ()))
          else
            let v28 := ((v26).tmod (11 : Int))
            some (((v2, ((0 : Int), (r4.1.1, (v28, ())))), ()), ((r9.2.1.1, (r9.2.1.2.1, ())), ()))
        else
          if (v2 == (21 : Int)) = false then
            if (v2 == (22 : Int)) then
              let v29 := ((r9.1.1).tmod (11 : Int))
              some (((v2, ((0 : Int), (r4.1.1, (v29, ())))), ()), ((r9.2.1.1, (r9.2.1.2.1, ())), ()))
            else
              some (((v2, ((0 : Int), (r4.1.1, (r9.1.1, ())))), ()), ((r9.2.1.1, (r9.2.1.2.1, ())), ()))
          else
            let v30 := ((r9.1.1).tmod (11 : Int))
            some (((v2, ((0 : Int), (r4.1.1, (v30, ())))), ()), ((r9.2.1.1, (r9.2.1.2.1, ())), ()))
  else
    if r10.1.2.1 then
      if r10.1.2.2.1 then
        if (leI v2 (11 : Int)) then
          let v31 := (((0 : Int)).tmod (16 : Int))
          if (v2 == (21 : Int)) = false then
            if (v2 == (22 : Int)) then
              let v32 := ((v31).tmod (11 : Int))
              some (((v2, (r3.1.1, ((0 : Int), (v32, ())))), ()), ((r9.2.1.1, (r9.2.1.2.1, ())), ()))
            else
              some (((v2, (r3.1.1, ((0 : Int), (v31, ())))), ()), ((r9.2.1.1, (r9.2.1.2.1, ())), ()))
          else
            let v33 := ((v31).tmod (11 : Int))
            some (((v2, (r3.1.1, ((0 : Int), (v33, ())))), ()), ((r9.2.1.1, (r9.2.1.2.1, ())), ()))
        else
          if (v2 == (21 : Int)) = false then
            if (v2 == (22 : Int)) then
              let v34 := (((0 : Int)).tmod (11 : Int))
              some (((v2, (r3.1.1, ((0 : Int), (v34, ())))), ()), ((r9.2.1.1, (r9.2.1.2.1, ())), ()))
            else
              some (((v2, (r3.1.1, ((0 : Int), ((0 : Int), ())))), ()), ((r9.2.1.1, (r9.2.1.2.1, ())), ()))
          else
            let v35 := (((0 : Int)).tmod (11 : Int))
            some (((v2, (r3.1.1, ((0 : Int), (v35, ())))), ()), ((r9.2.1.1, (r9.2.1.2.1, ())), ()))
      else
        if (leI v2 (11 : Int)) then
          let v36 := ((r9.1.1).tmod (16 : Int))
          if (v2 == (21 : Int)) = false then
            if (v2 == (22 : Int)) then
              let v37 := ((v36).tmod (11 : Int))
              some (((v2, (r3.1.1, ((0 : Int), (v37, ())))), ()), ((r9.2.1.1, (r9.2.1.2.1, ())), ()))
            else
              some (((v2, (r3.1.1, ((0 : Int), (v36, ())))), ()), ((r9.2.1.1, (r9.2.1.2.1, ())), ()))
          else
            let v38 := ((v36).tmod (11 : Int))
            some (((v2, (r3.1.1, ((0 : Int), (v38, ())))), ()), ((r9.2.1.1, (r9.2.1.2.1, ())), ()))
        else
          if (v2 == (21 : Int)) = false then
            if (v2 == (22 : Int)) then
              let v39 := ((r9.1.1).tmod (11 : Int))
              some (((v2, (r3.1.1, ((0 : Int), (v39, ())))), ()), ((r9.2.1.1, (r9.2.1.2.1, ())), ()))
            else
              some (((v2, (r3.1.1, ((0 : Int), (r9.1.1, ())))), ()), ((r9.2.1.1, (r9.2.1.2.1, ())), ()))
          else
            let v40 := ((r9.1.1).tmod (11 : Int))
            some (((v2, (r3.1.1, ((0 : Int), (v40, ())))), ()), ((r9.2.1.1, (r9.2.1.2.1, ())), ()))
    else
      if r10.1.2.2.1 then
        if (leI v2 (11 : Int)) then
          let v41 := (((0 : Int)).tmod (16 : Int))
          if (v2 == (21 : Int)) = false then
            if (v2 == (22 : Int)) then
              let v42 := ((v41).tmod (11 : Int))
              some (((v2, (r3.1.1, (r4.1.1, (v42, ())))), ()), ((r9.2.1.1, (r9.2.1.2.1, ())), ()))
            else
              some (((v2, (r3.1.1, (r4.1.1, (v41, ())))), ()), ((r9.2.1.1, (r9.2.1.2.1, ())), ()))
          else
            let v43 := ((v41).tmod (11 : Int))
            some (((v2, (r3.1.1, (r4.1.1, (v43, ())))), ()), ((r9.2.1.1, (r9.2.1.2.1, ())), ()))
        else
          if (v2 == (21 : Int)) = false then
            if (v2 == (22 : Int)) then
              let v44 := (((0 : Int)).tmod (11 : Int))
              some (((v2, (r3.1.1, (r4.1.1, (v44, ())))), ()), ((r9.2.1.1, (r9.2.1.2.1, ())), ()))
            else
              some (((v2, (r3.1.1, (r4.1.1, ((0 : Int), ())))), ()), ((r9.2.1.1, (r9.2.1.2.1, ())), ()))
          else
            let v45 := (((0 : Int)).tmod (11 : Int))
            some (((v2, (r3.1.1, (r4.1.1, (v45, ())))), ()), ((r9.2.1.1, (r9.2.1.2.1, ())), ()))
      else
        if (leI v2 (11 : Int)) then
          let v46 := ((r9.1.1).tmod (16 : Int))
          if (v2 == (21 : Int)) = false then
            if (v2 == (22 : Int)) then
              let v47 := ((v46).tmod (11 : Int))
              some (((v2, (r3.1.1, (r4.1.1, (v47, ())))), ()), ((r9.2.1.1, (r9.2.1.2.1, ())), ()))
            else
              some (((v2, (r3.1.1, (r4.1.1, (v46, ())))), ()), ((r9.2.1.1, (r9.2.1.2.1, ())), ()))
          else
            let v48 := ((v46).tmod (11 : Int))
            some (((v2, (r3.1.1, (r4.1.1, (v48, ())))), ()), ((r9.2.1.1, (r9.2.1.2.1, ())), ()))
        else
          if (v2 == (21 : Int)) = false then
            if (v2 == (22 : Int)) then
              let v49 := ((r9.1.1).tmod (11 : Int))
              some (((v2, (r3.1.1, (r4.1.1, (v49, ())))), ()), ((r9.2.1.1, (r9.2.1.2.1, ())), ()))
            else
              some (((v2, (r3.1.1, (r4.1.1, (r9.1.1, ())))), ()), ((r9.2.1.1, (r9.2.1.2.1, ())), ()))
          else
            let v50 := ((r9.1.1).tmod (11 : Int))
            some (((v2, (r3.1.1, (r4.1.1, (v50, ())))), ()), ((r9.2.1.1, (r9.2.1.2.1, ())), ()))
abbrev C_spec_l2Ins : Con := ⟨P_spec_l2Ins, R_spec_l2Ins, F_spec_l2Ins, false⟩
abbrev G_spec_l2Ins : Env := [(80, C_spec_l1Pick), (81, C_spec_l1Next), (189, C_spec_l2Bare)]
theorem g_spec_l2Ins : EnvOk Try.prog G_spec_l2Ins := (env_cons s_spec_l1Pick (env_cons s_spec_l1Next (env_cons s_spec_l2Bare env_nil)))
theorem r_spec_l2Ins (x) : runFn T G_spec_l2Ins [] Try.f164 P_spec_l2Ins R_spec_l2Ins x = F_spec_l2Ins x := by kernel_rfl
theorem s_spec_l2Ins : CallsOk Try.prog 164 C_spec_l2Ins :=
  fn_calls (L := []) hT g_spec_l2Ins Try.f164 (by kernel_rfl) (by kernel_rfl) (by kernel_rfl) (plain_ok (by kernel_rfl)) r_spec_l2Ins
/-! spec.l7Ins -/
abbrev P_spec_l7Ins : List PK := [.box [.dat Y53, .dat YI] [.dat Y53, .dat YI]]
abbrev R_spec_l7Ins : List VK := [.s (.dat Y159)]
def F_spec_l7Ins (x : denP P_spec_l7Ins) : Option (denV R_spec_l7Ins × denQ P_spec_l7Ins) :=
  (F_spec_l1Next ((x.1.1, (x.1.2.1, ())), (3 : Int), ())).bind fun r1 =>
  let v2 := (IntKind.i64.wrap ((1 : Int) + r1.1.1))
  (F_spec_l1Next ((r1.2.1.1, (r1.2.1.2.1, ())), (14 : Int), ())).bind fun r3 =>
  if (r3.1.1 == (0 : Int)) then
    (F_spec_l1Next ((r3.2.1.1, (r3.2.1.2.1, ())), (4 : Int), ())).bind fun r4 =>
    (F_spec_l1Next ((r4.2.1.1, (r4.2.1.2.1, ())), (9 : Int), ())).bind fun r5 =>
    (F_spec_l1Next ((r5.2.1.1, (r5.2.1.2.1, ())), (8 : Int), ())).bind fun r6 =>
    let v7 := (IntKind.i64.wrap ((56 : Int) + r6.1.1))
    (F_spec_l1Next ((r6.2.1.1, (r6.2.1.2.1, ())), (16 : Int), ())).bind fun r8 =>
    let v9 := (IntKind.i64.wrap ((40 : Int) + r8.1.1))
    (F_spec_l1Pick ((r8.2.1.1, (r8.2.1.2.1, ())), [r5.1.1, v7, v9, (65535 : Int)], ())).bind fun r10 =>
    some ((((12 : Int), (v2, (r4.1.1, (r10.1.1, ())))), ()), ((r10.2.1.1, (r10.2.1.2.1, ())), ()))
  else
    if (r3.1.1 == (1 : Int)) then
      (F_spec_l1Next ((r3.2.1.1, (r3.2.1.2.1, ())), (4 : Int), ())).bind fun r11 =>
      (F_spec_l1Next ((r11.2.1.1, (r11.2.1.2.1, ())), (9 : Int), ())).bind fun r12 =>
      (F_spec_l1Next ((r12.2.1.1, (r12.2.1.2.1, ())), (8 : Int), ())).bind fun r13 =>
      let v14 := (IntKind.i64.wrap ((56 : Int) + r13.1.1))
      (F_spec_l1Next ((r13.2.1.1, (r13.2.1.2.1, ())), (16 : Int), ())).bind fun r15 =>
      let v16 := (IntKind.i64.wrap ((40 : Int) + r15.1.1))
      (F_spec_l1Pick ((r15.2.1.1, (r15.2.1.2.1, ())), [r12.1.1, v14, v16, (65535 : Int)], ())).bind fun r17 =>
      some ((((12 : Int), (v2, (r11.1.1, (r17.1.1, ())))), ()), ((r17.2.1.1, (r17.2.1.2.1, ())), ()))
    else
      if (r3.1.1 == (2 : Int)) then
        (F_spec_l1Next ((r3.2.1.1, (r3.2.1.2.1, ())), (4 : Int), ())).bind fun r18 =>
        (F_spec_l1Next ((r18.2.1.1, (r18.2.1.2.1, ())), (9 : Int), ())).bind fun r19 =>
        (F_spec_l1Next ((r19.2.1.1, (r19.2.1.2.1, ())), (8 : Int), ())).bind fun r20 =>
        let v21 := (IntKind.i64.wrap ((56 : Int) + r20.1.1))
        (F_spec_l1Next ((r20.2.1.1, (r20.2.1.2.1, ())), (16 : Int), ())).bind fun r22 =>
        let v23 := (IntKind.i64.wrap ((40 : Int) + r22.1.1))
        (F_spec_l1Pick ((r22.2.1.1, (r22.2.1.2.1, ())), [r19.1.1, v21, v23, (65535 : Int)], ())).bind fun r24 =>
        some ((((12 : Int), (v2, (r18.1.1, (r24.1.1, ())))), ()), ((r24.2.1.1, (r24.2.1.2.1, ())), ()))
      else
        if (r3.1.1 == (3 : Int)) then
          (F_spec_l1Next ((r3.2.1.1, (r3.2.1.2.1, ())), (11 : Int), ())).bind fun r25 =>
          let v26 := (IntKind.i64.wrap ((1 : Int) + r25.1.1))
          (F_spec_l1Next ((r25.2.1.1, (r25.2.1.2.1, ())), (4 : Int), ())).bind fun r27 =>
          (F_spec_l1Next ((r27.2.1.1, (r27.2.1.2.1, ())), (4 : Int), ())).bind fun r28 =>
          some (((v26, (v2, (r27.1.1, (r28.1.1, ())))), ()), ((r28.2.1.1, (r28.2.1.2.1, ())), ()))
        else
          if (r3.1.1 == (4 : Int)) then
            (F_spec_l1Next ((r3.2.1.1, (r3.2.1.2.1, ())), (4 : Int), ())).bind fun r29 =>
            (F_spec_l1Next ((r29.2.1.1, (r29.2.1.2.1, ())), (24 : Int), ())).bind fun r30 =>
            (F_spec_l1Next ((r30.2.1.1, (r30.2.1.2.1, ())), (16 : Int), ())).bind fun r31 =>
            let v32 := (IntKind.i64.wrap ((40 : Int) + r31.1.1))
            (F_spec_l1Next ((r31.2.1.1, (r31.2.1.2.1, ())), (6 : Int), ())).bind fun r33 =>
            let v34 := (IntKind.i64.wrap ((56 : Int) + r33.1.1))
            (F_spec_l1Pick ((r33.2.1.1, (r33.2.1.2.1, ())), [r30.1.1, v32, v34], ())).bind fun r35 =>
            some ((((15 : Int), (v2, (r29.1.1, (r35.1.1, ())))), ()), ((r35.2.1.1, (r35.2.1.2.1, ())), ()))
          else
            if (r3.1.1 == (5 : Int)) then
              (F_spec_l1Next ((r3.2.1.1, (r3.2.1.2.1, ())), (4 : Int), ())).bind fun r36 =>
              (F_spec_l1Next ((r36.2.1.1, (r36.2.1.2.1, ())), (24 : Int), ())).bind fun r37 =>
              (F_spec_l1Next ((r37.2.1.1, (r37.2.1.2.1, ())), (16 : Int), ())).bind fun r38 =>
              let v39 := (IntKind.i64.wrap ((40 : Int) + r38.1.1))
              (F_spec_l1Next ((r38.2.1.1, (r38.2.1.2.1, ())), (6 : Int), ())).bind fun r40 =>
              let v41 := (IntKind.i64.wrap ((56 : Int) + r40.1.1))
              (F_spec_l1Pick ((r40.2.1.1, (r40.2.1.2.1, ())), [r37.1.1, v39, v41], ())).bind fun r42 =>
              some ((((15 : Int), (v2, (r36.1.1, (r42.1.1, ())))), ()), ((r42.2.1.1, (r42.2.1.2.1, ())), ()))
            else
              if (r3.1.1 == (6 : Int)) then
                (F_spec_l1Next ((r3.2.1.1, (r3.2.1.2.1, ())), (4 : Int), ())).bind fun r43 =>
                (F_spec_l1Next ((r43.2.1.1, (r43.2.1.2.1, ())), (24 : Int), ())).bind fun r44 =>
                (F_spec_l1Next ((r44.2.1.1, (r44.2.1.2.1, ())), (16 : Int), ())).bind fun r45 =>
                let v46 := (IntKind.i64.wrap ((40 : Int) + r45.1.1))
                (F_spec_l1Next ((r45.2.1.1, (r45.2.1.2.1, ())), (6 : Int), ())).bind fun r47 =>
                let v48 := (IntKind.i64.wrap ((56 : Int) + r47.1.1))
                (F_spec_l1Pick ((r47.2.1.1, (r47.2.1.2.1, ())), [r44.1.1, v46, v48], ())).bind fun r49 =>
                some ((((14 : Int), (v2, (r43.1.1, (r49.1.1, ())))), ()), ((r49.2.1.1, (r49.2.1.2.1, ())), ()))
              else
                if (r3.1.1 == (7 : Int)) then
                  (F_spec_l1Next ((r3.2.1.1, (r3.2.1.2.1, ())), (4 : Int), ())).bind fun r50 =>
                  (F_spec_l1Next ((r50.2.1.1, (r50.2.1.2.1, ())), (24 : Int), ())).bind fun r51 =>
                  (F_spec_l1Next ((r51.2.1.1, (r51.2.1.2.1, ())), (16 : Int), ())).bind fun r52 =>
                  let v53 := (IntKind.i64.wrap ((40 : Int) + r52.1.1))
                  (F_spec_l1Next ((r52.2.1.1, (r52.2.1.2.1, ())), (6 : Int), ())).bind fun r54 =>
                  let v55 := (IntKind.i64.wrap ((56 : Int) + r54.1.1))
                  (F_spec_l1Pick ((r54.2.1.1, (r54.2.1.2.1, ())), [r51.1.1, v53, v55], ())).bind fun r56 =>
                  some ((((14 : Int), (v2, (r50.1.1, (r56.1.1, ())))), ()), ((r56.2.1.1, (r56.2.1.2.1, ())), ()))
                else
                  if (r3.1.1 == (8 : Int)) then
                    (F_spec_l1Pick ((r3.2.1.1, (r3.2.1.2.1, ())), [(16 : Int), (17 : Int), (18 : Int)], ())).bind fun r57 =>
                    (F_spec_l1Next ((r57.2.1.1, (r57.2.1.2.1, ())), (4 : Int), ())).bind fun r58 =>
                    (F_spec_l1Pick ((r58.2.1.1, (r58.2.1.2.1, ())), [(1 : Int), (2 : Int), (65535 : Int), (65533 : Int)], ())).bind fun r59 =>
                    some (((r57.1.1, (v2, (r58.1.1, (r59.1.1, ())))), ()), ((r59.2.1.1, (r59.2.1.2.1, ())), ()))
                  else
                    if (r3.1.1 == (9 : Int)) then
                      (F_spec_l1Pick ((r3.2.1.1, (r3.2.1.2.1, ())), [(0 : Int), (1 : Int), (7 : Int), (9 : Int), (10 : Int), (5 : Int), (6 : Int)], ())).bind fun r60 =>
                      some ((((22 : Int), ((0 : Int), (v2, (r60.1.1, ())))), ()), ((r60.2.1.1, (r60.2.1.2.1, ())), ()))
                    else
                      if (r3.1.1 == (10 : Int)) then
                        (F_spec_l1Next ((r3.2.1.1, (r3.2.1.2.1, ())), (11 : Int), ())).bind fun r61 =>
                        some ((((21 : Int), (v2, ((0 : Int), (r61.1.1, ())))), ()), ((r61.2.1.1, (r61.2.1.2.1, ())), ()))
                      else
                        if (r3.1.1 == (11 : Int)) then
                          (F_spec_l1Pick ((r3.2.1.1, (r3.2.1.2.1, ())), [(0 : Int), (5 : Int)], ())).bind fun r62 =>
                          (F_spec_l1Pick ((r62.2.1.1, (r62.2.1.2.1, ())), [(65534 : Int), (65530 : Int), (2 : Int)], ())).bind fun r63 =>
                          some ((((19 : Int), (r62.1.1, ((0 : Int), (r63.1.1, ())))), ()), ((r63.2.1.1, (r63.2.1.2.1, ())), ()))
                        else
                          (F_spec_l2Ins ((r3.2.1.1, (r3.2.1.2.1, ())), ())).bind fun r64 =>
                          some ((r64.1.1, ()), ((r64.2.1.1, (r64.2.1.2.1, ())), ()))
abbrev C_spec_l7Ins : Con := ⟨P_spec_l7Ins, R_spec_l7Ins, F_spec_l7Ins, false⟩
abbrev G_spec_l7Ins : Env := [(80, C_spec_l1Pick), (81, C_spec_l1Next), (164, C_spec_l2Ins)]
theorem g_spec_l7Ins : EnvOk Try.prog G_spec_l7Ins := (env_cons s_spec_l1Pick (env_cons s_spec_l1Next (env_cons s_spec_l2Ins env_nil)))
theorem r_spec_l7Ins (x) : runFn T G_spec_l7Ins [] Try.f134 P_spec_l7Ins R_spec_l7Ins x = F_spec_l7Ins x := by kernel_rfl
theorem s_spec_l7Ins : CallsOk Try.prog 134 C_spec_l7Ins :=
  fn_calls (L := []) hT g_spec_l7Ins Try.f134 (by kernel_rfl) (by kernel_rfl) (by kernel_rfl) (plain_ok (by kernel_rfl)) r_spec_l7Ins
/-! spec.InsFault -/
abbrev P_spec_InsFault : List PK := [.val Y159]
abbrev R_spec_InsFault : List VK := [.s (.dat YI)]
def F_spec_InsFault (x : denP P_spec_InsFault) : Option (denV R_spec_InsFault × denQ P_spec_InsFault) :=
  (F_spec_l1In (x.1.1, (1 : Int), (26 : Int), ())).bind fun r1 =>
  if (!r1.1.1) = false then
    (F_spec_l1In (x.1.2.1, (0 : Int), (15 : Int), ())).bind fun r2 =>
    if (!r2.1.1) = false then
      (F_spec_l1In (x.1.2.2.1, (0 : Int), (15 : Int), ())).bind fun r3 =>
      if (!r3.1.1) = false then
        (F_spec_l1In (x.1.2.2.2.1, (0 : Int), (65535 : Int), ())).bind fun r4 =>
        if (!r4.1.1) then
          some (((3 : Int), ()), ())
        else
          (F_spec_l2Bare (x.1.1, ())).bind fun r5 =>
          if r5.1.1 = true then
            if (x.1.2.1 != (0 : Int)) = false then
              if r5.1.2.1 = true then
                if (x.1.2.2.1 != (0 : Int)) = false then
                  if r5.1.2.2.1 = true then
                    if (x.1.2.2.2.1 != (0 : Int)) = false then
                      if (leI x.1.1 (11 : Int)) = true then
                        if (ltI (15 : Int) x.1.2.2.2.1) = false then
                          if (x.1.1 == (21 : Int)) = false then
                            if (x.1.1 == (22 : Int)) = true then
                              if (ltI (10 : Int) x.1.2.2.2.1) then
                                some (((1 : Int), ()), ())
                              else
                                some (((0 : Int), ()), ())
                            else
                              some (((0 : Int), ()), ())
                          else
                            if (ltI (10 : Int) x.1.2.2.2.1) then
                              some (((1 : Int), ()), ())
                            else
                              some (((0 : Int), ()), ())
                        else
                          some (((1 : Int), ()), ())
                      else
                        if (x.1.1 == (21 : Int)) = false then
                          if (x.1.1 == (22 : Int)) = true then
                            if (ltI (10 : Int) x.1.2.2.2.1) then
                              some (((1 : Int), ()), ())
                            else
                              some (((0 : Int), ()), ())
                          else
                            some (((0 : Int), ()), ())
                        else
                          if (ltI (10 : Int) x.1.2.2.2.1) then
                            some (((1 : Int), ()), ())
                          else
                            some (((0 : Int), ()), ())
                    else
                      some (((1 : Int), ()), ())
                  else
                    if (leI x.1.1 (11 : Int)) = true then
                      if (ltI (15 : Int) x.1.2.2.2.1) = false then
                        if (x.1.1 == (21 : Int)) = false then
                          if (x.1.1 == (22 : Int)) = true then
                            if (ltI (10 : Int) x.1.2.2.2.1) then
                              some (((1 : Int), ()), ())
                            else
                              some (((0 : Int), ()), ())
                          else
                            some (((0 : Int), ()), ())
                        else
                          if (ltI (10 : Int) x.1.2.2.2.1) then
                            some (((1 : Int), ()), ())
                          else
                            some (((0 : Int), ()), ())
                      else
                        some (((1 : Int), ()), ())
                    else
                      if (x.1.1 == (21 : Int)) = false then
                        if (x.1.1 == (22 : Int)) = true then
                          if (ltI (10 : Int) x.1.2.2.2.1) then
                            some (((1 : Int), ()), ())
                          else
                            some (((0 : Int), ()), ())
                        else
                          some (((0 : Int), ()), ())
                      else
                        if (ltI (10 : Int) x.1.2.2.2.1) then
                          some (((1 : Int), ()), ())
                        else
                          some (((0 : Int), ()), ())
                else
                  some (((1 : Int), ()), ())
              else
                if r5.1.2.2.1 = true then
                  if (x.1.2.2.2.1 != (0 : Int)) = false then
                    if (leI x.1.1 (11 : Int)) = true then
                      if (ltI (15 : Int) x.1.2.2.2.1) = false then
                        if (x.1.1 == (21 : Int)) = false then
                          if (x.1.1 == (22 : Int)) = true then
                            if (ltI (10 : Int) x.1.2.2.2.1) then
                              some (((1 : Int), ()), ())
                            else
                              some (((0 : Int), ()), ())
                          else
                            some (((0 : Int), ()), ())
                        else
                          if (ltI (10 : Int) x.1.2.2.2.1) then
                            some (((1 : Int), ()), ())
                          else
                            some (((0 : Int), ()), ())
                      else
                        some (((1 : Int), ()), ())
                    else
                      if (x.1.1 == (21 : Int)) = false then
                        if (x.1.1 == (22 : Int)) = true then
                          if (ltI (10 : Int) x.1.2.2.2.1) then
                            some (((1 : Int), ()), ())
                          else
                            some (((0 : Int), ()), ())
                        else
                          some (((0 : Int), ()), ())
                      else
                        if (ltI (10 : Int) x.1.2.2.2.1) then
                          some (((1 : Int), ()), ())
                        else
                          some (((0 : Int), ()), ())
                  else
                    some (((1 : Int), ()), ())
                else
                  if (leI x.1.1 (11 : Int)) = true then
                    if (ltI (15 : Int) x.1.2.2.2.1) = false then
                      if (x.1.1 == (21 : Int)) = false then
                        if (x.1.1 == (22 : Int)) = true then
                          if (ltI (10 : Int) x.1.2.2.2.1) then
                            some (((1 : Int), ()), ())
                          else
                            some (((0 : Int), ()), ())
                        else
                          some (((0 : Int), ()), ())
                      else
                        if (ltI (10 : Int) x.1.2.2.2.1) then
                          some (((1 : Int), ()), ())
                        else
                          some (((0 : Int), ()), ())
                    else
                      some (((1 : Int), ()), ())
                  else
                    if (x.1.1 == (21 : Int)) = false then
                      if (x.1.1 == (22 : Int)) = true then
                        if (ltI (10 : Int) x.1.2.2.2.1) then
                          some (((1 : Int), ()), ())
                        else
                          some (((0 : Int), ()), ())
                      else
                        some (((0 : Int), ()), ())
                    else
                      if (ltI (10 : Int) x.1.2.2.2.1) then
                        some (((1 : Int), ()), ())
                      else
                        some (((0 : Int), ()), ())
            else
              some (((1 : Int), ()), ())
          else
            if r5.1.2.1 = true then
              if (x.1.2.2.1 != (0 : Int)) = false then
                if r5.1.2.2.1 = true then
                  if (x.1.2.2.2.1 != (0 : Int)) = false then
                    if (leI x.1.1 (11 : Int)) = true then
                      if (ltI (15 : Int) x.1.2.2.2.1) = false then
                        if (x.1.1 == (21 : Int)) = false then
                          if (x.1.1 == (22 : Int)) = true then
                            if (ltI (10 : Int) x.1.2.2.2.1) then
                              some (((1 : Int), ()), ())
                            else
                              some (((0 : Int), ()), ())
                          else
                            some (((0 : Int), ()), ())
                        else
                          if (ltI (10 : Int) x.1.2.2.2.1) then
                            some (((1 : Int), ()), ())
                          else
                            some (((0 : Int), ()), ())
                      else
                        some (((1 : Int), ()), ())
                    else
                      if (x.1.1 == (21 : Int)) = false then
                        if (x.1.1 == (22 : Int)) = true then
                          if (ltI (10 : Int) x.1.2.2.2.1) then
                            some (((1 : Int), ()), ())
                          else
                            some (((0 : Int), ()), ())
                        else
                          some (((0 : Int), ()), ())
                      else
                        if (ltI (10 : Int) x.1.2.2.2.1) then
                          some (((1 : Int), ()), ())
                        else
                          some (((0 : Int), ()), ())
                  else
                    some (((1 : Int), ()), ())
                else
                  if (leI x.1.1 (11 : Int)) = true then
                    if (ltI (15 : Int) x.1.2.2.2.1) = false then
                      if (x.1.1 == (21 : Int)) = false then
                        if (x.1.1 == (22 : Int)) = true then
                          if (ltI (10 : Int) x.1.2.2.2.1) then
                            some (((1 : Int), ()), ())
                          else
                            some (((0 : Int), ()), ())
                        else
                          some (((0 : Int), ()), ())
                      else
                        if (ltI (10 : Int) x.1.2.2.2.1) then
                          some (((1 : Int), ()), ())
                        else
                          some (((0 : Int), ()), ())
                    else
                      some (((1 : Int), ()), ())
                  else
                    if (x.1.1 == (21 : Int)) = false then
                      if (x.1.1 == (22 : Int)) = true then
                        if (ltI (10 : Int) x.1.2.2.2.1) then
                          some (((1 : Int), ()), ())
                        else
                          some (((0 : Int), ()), ())
                      else
                        some (((0 : Int), ()), ())
                    else
                      if (ltI (10 : Int) x.1.2.2.2.1) then
                        some (((1 : Int), ()), ())
                      else
                        some (((0 : Int), ()), ())
              else
                some (((1 : Int), ()), ())
            else
              if r5.1.2.2.1 = true then
                if (x.1.2.2.2.1 != (0 : Int)) = false then
                  if (leI x.1.1 (11 : Int)) = true then
                    if (ltI (15 : Int) x.1.2.2.2.1) = false then
                      if (x.1.1 == (21 : Int)) = false then
                        if (x.1.1 == (22 : Int)) = true then
                          if (ltI (10 : Int) x.1.2.2.2.1) then
                            some (((1 : Int), ()), ())
                          else
                            some (((0 : Int), ()), ())
                        else
                          some (((0 : Int), ()), ())
                      else
                        if (ltI (10 : Int) x.1.2.2.2.1) then
                          some (((1 : Int), ()), ())
                        else
                          some (((0 : Int), ()), ())
                    else
                      some (((1 : Int), ()), ())
                  else
                    if (x.1.1 == (21 : Int)) = false then
                      if (x.1.1 == (22 : Int)) = true then
                        if (ltI (10 : Int) x.1.2.2.2.1) then
                          some (((1 : Int), ()), ())
                        else
                          some (((0 : Int), ()), ())
                      else
                        some (((0 : Int), ()), ())
                    else
                      if (ltI (10 : Int) x.1.2.2.2.1) then
                        some (((1 : Int), ()), ())
                      else
                        some (((0 : Int), ()), ())
                else
                  some (((1 : Int), ()), ())
              else
                if (leI x.1.1 (11 : Int)) = true then
                  if (ltI (15 : Int) x.1.2.2.2.1) = false then
                    if (x.1.1 == (21 : Int)) = false then
                      if (x.1.1 == (22 : Int)) = true then
                        if (ltI (10 : Int) x.1.2.2.2.1) then
                          some (((1 : Int), ()), ())
                        else
                          some (((0 : Int), ()), ())
                      else
                        some (((0 : Int), ()), ())
                    else
                      if (ltI (10 : Int) x.1.2.2.2.1) then
                        some (((1 : Int), ()), ())
                      else
                        some (((0 : Int), ()), ())
                  else
                    some (((1 : Int), ()), ())
                else
                  if (x.1.1 == (21 : Int)) = false then
                    if (x.1.1 == (22 : Int)) = true then
                      if (ltI (10 : Int) x.1.2.2.2.1) then
                        some (((1 : Int), ()), ())
                      else
                        some (((0 : Int), ()), ())
                    else
                      some (((0 : Int), ()), ())
                  else
                    if (ltI (10 : Int) x.1.2.2.2.1) then
                      some (((1 : Int), ()), ())
                    else
                      some (((0 : Int), ()), ())
      else
        some (((3 : Int), ()), ())
    else
      some (((3 : Int), ()), ())
  else
    some (((3 : Int), ()), ())
abbrev C_spec_InsFault : Con := ⟨P_spec_InsFault, R_spec_InsFault, F_spec_InsFault, false⟩
abbrev G_spec_InsFault : Env := [(60, C_spec_l1In), (189, C_spec_l2Bare)]
theorem g_spec_InsFault : EnvOk Try.prog G_spec_InsFault := (env_cons s_spec_l1In (env_cons s_spec_l2Bare env_nil))
theorem r_spec_InsFault (x) : runFn T G_spec_InsFault [] Try.f163 P_spec_InsFault R_spec_InsFault x = F_spec_InsFault x := by kernel_rfl
theorem s_spec_InsFault : CallsOk Try.prog 163 C_spec_InsFault :=
  fn_calls (L := []) hT g_spec_InsFault Try.f163 (by kernel_rfl) (by kernel_rfl) (by kernel_rfl) (plain_ok (by kernel_rfl)) r_spec_InsFault
/-! spec.EncodeIns -/
abbrev P_spec_EncodeIns : List PK := [.val Y159]
abbrev R_spec_EncodeIns : List VK := [.s (.dat Y23)]
def F_spec_EncodeIns (x : denP P_spec_EncodeIns) : Option (denV R_spec_EncodeIns × denQ P_spec_EncodeIns) :=
  (F_spec_InsFault (x.1, ())).bind fun r1 =>
  if (r1.1.1 != (0 : Int)) then
    some (((r1.1.1, ((0 : Int), ())), ()), ())
  else
    let v2 := (IntKind.i64.wrap (x.1.1 * 2 ^ 24))
    let v3 := (IntKind.i64.wrap (x.1.2.1 * 2 ^ 20))
    let v4 := (IntKind.i64.wrap (v2 + v3))
    let v5 := (IntKind.i64.wrap (x.1.2.2.1 * 2 ^ 16))
    let v6 := (IntKind.i64.wrap (v4 + v5))
    let v7 := (IntKind.i64.wrap (v6 + x.1.2.2.2.1))
    some ((((0 : Int), (v7, ())), ()), ())
abbrev C_spec_EncodeIns : Con := ⟨P_spec_EncodeIns, R_spec_EncodeIns, F_spec_EncodeIns, false⟩
abbrev G_spec_EncodeIns : Env := [(163, C_spec_InsFault)]
theorem g_spec_EncodeIns : EnvOk Try.prog G_spec_EncodeIns := (env_cons s_spec_InsFault env_nil)
theorem r_spec_EncodeIns (x) : runFn T G_spec_EncodeIns [] Try.f133 P_spec_EncodeIns R_spec_EncodeIns x = F_spec_EncodeIns x := by kernel_rfl
theorem s_spec_EncodeIns : CallsOk Try.prog 133 C_spec_EncodeIns :=
  fn_calls (L := []) hT g_spec_EncodeIns Try.f133 (by kernel_rfl) (by kernel_rfl) (by kernel_rfl) (plain_ok (by kernel_rfl)) r_spec_EncodeIns
/-! spec.l1Chance -/
abbrev P_spec_l1Chance : List PK := [.box [.dat Y53, .dat YI] [.dat Y53, .dat YI], .val YI]
abbrev R_spec_l1Chance : List VK := [.s (.dat .bool)]
def F_spec_l1Chance (x : denP P_spec_l1Chance) : Option (denV R_spec_l1Chance × denQ P_spec_l1Chance) :=
  (F_spec_l1Next ((x.1.1, (x.1.2.1, ())), x.2.1, ())).bind fun r1 =>
  some (((r1.1.1 == (0 : Int)), ()), ((r1.2.1.1, (r1.2.1.2.1, ())), ()))
abbrev C_spec_l1Chance : Con := ⟨P_spec_l1Chance, R_spec_l1Chance, F_spec_l1Chance, false⟩
abbrev G_spec_l1Chance : Env := [(81, C_spec_l1Next)]
theorem g_spec_l1Chance : EnvOk Try.prog G_spec_l1Chance := (env_cons s_spec_l1Next env_nil)
theorem r_spec_l1Chance (x) : runFn T G_spec_l1Chance [] Try.f131 P_spec_l1Chance R_spec_l1Chance x = F_spec_l1Chance x := by kernel_rfl
theorem s_spec_l1Chance : CallsOk Try.prog 131 C_spec_l1Chance :=
  fn_calls (L := []) hT g_spec_l1Chance Try.f131 (by kernel_rfl) (by kernel_rfl) (by kernel_rfl) (plain_ok (by kernel_rfl)) r_spec_l1Chance
/-! spec.l1Word -/
abbrev P_spec_l1Word : List PK := [.box [.dat Y53, .dat YI] [.dat Y53, .dat YI]]
abbrev R_spec_l1Word : List VK := [.s (.dat YI)]
def F_spec_l1Word (x : denP P_spec_l1Word) : Option (denV R_spec_l1Word × denQ P_spec_l1Word) :=
  (F_spec_l1Next ((x.1.1, (x.1.2.1, ())), (90 : Int), ())).bind fun r1 =>
  (F_spec_l1Next ((r1.2.1.1, (r1.2.1.2.1, ())), (9 : Int), ())).bind fun r2 =>
  (F_spec_l1Next ((r2.2.1.1, (r2.2.1.2.1, ())), (9 : Int), ())).bind fun r3 =>
  let v4 := (IntKind.i64.wrap ((4294967295 : Int) - r3.1.1))
  (F_spec_l1Next ((r3.2.1.1, (r3.2.1.2.1, ())), (60000 : Int), ())).bind fun r5 =>
  let v6 := (IntKind.i64.wrap (r5.1.1 * (70000 : Int)))
  (F_spec_l1Pick ((r5.2.1.1, (r5.2.1.2.1, ())), [r1.1.1, r2.1.1, v4, (2147483648 : Int), (2147483647 : Int), (0 : Int), v6], ())).bind fun r7 =>
  some ((r7.1.1, ()), ((r7.2.1.1, (r7.2.1.2.1, ())), ()))
abbrev C_spec_l1Word : Con := ⟨P_spec_l1Word, R_spec_l1Word, F_spec_l1Word, false⟩
abbrev G_spec_l1Word : Env := [(80, C_spec_l1Pick), (81, C_spec_l1Next)]
theorem g_spec_l1Word : EnvOk Try.prog G_spec_l1Word := (env_cons s_spec_l1Pick (env_cons s_spec_l1Next env_nil))
theorem r_spec_l1Word (x) : runFn T G_spec_l1Word [] Try.f135 P_spec_l1Word R_spec_l1Word x = F_spec_l1Word x := by kernel_rfl
theorem s_spec_l1Word : CallsOk Try.prog 135 C_spec_l1Word :=
  fn_calls (L := []) hT g_spec_l1Word Try.f135 (by kernel_rfl) (by kernel_rfl) (by kernel_rfl) (plain_ok (by kernel_rfl)) r_spec_l1Word
/-! spec.l7Image -/
abbrev P_spec_l7Image : List PK := [.box [.dat Y53, .dat YI] [.dat Y53, .dat YI], .val YI]
abbrev R_spec_l7Image : List VK := [.s (.own 2 YI)]
abbrev i_spec_l7Image_2 : Shp := { slots := [(0, .s (.ptr 9000000 0)), (1, .s (.dat YI)), (5, .s (.own 2 YI))], boxes := [(9000000, [.dat Y53, .dat YI])], rows := [] }
abbrev o_spec_l7Image_2 : List (Ex × Shp) := [(.exit 0, { slots := [(5, .s (.own 2 YI))], boxes := [(9000000, [.dat Y53, .dat YI])], rows := [] })]
def l_spec_l7Image_2 (rec : i_spec_l7Image_2.den → Option (denO o_spec_l7Image_2)) (u2 : i_spec_l7Image_2.den) : Option (denO o_spec_l7Image_2) :=
  if (ltI (0 : Int) u2.1.2.1) then
    (F_spec_l7Ins ((u2.2.1.1.1, (u2.2.1.1.2.1, ())), ())).bind fun r5 =>
    (F_spec_EncodeIns (r5.1.1, ())).bind fun r6 =>
    (F_spec_l1Chance ((r5.2.1.1, (r5.2.1.2.1, ())), (20 : Int), ())).bind fun r7 =>
    if r7.1.1 then
      (F_spec_l1Word ((r7.2.1.1, (r7.2.1.2.1, ())), ())).bind fun r8 =>
      if (u2.1.2.2.1.length + [r8.1.1].length) * 8 ≤ 140737488355328 then
        let v9 := (u2.1.2.2.1 ++ [r8.1.1])
        let v10 := (IntKind.i64.wrap (u2.1.2.1 - (1 : Int)))
        rec (((), (v10, (v9, ()))), (((r8.2.1.1, (r8.2.1.2.1, ())), ()), ()))
      else none
    else
      if (u2.1.2.2.1.length + [r6.1.1.2.1].length) * 8 ≤ 140737488355328 then
        let v11 := (u2.1.2.2.1 ++ [r6.1.1.2.1])
        let v12 := (IntKind.i64.wrap (u2.1.2.1 - (1 : Int)))
        rec (((), (v12, (v11, ()))), (((r7.2.1.1, (r7.2.1.2.1, ())), ()), ()))
      else none
  else
    some (.inl ((u2.1.2.2.1, ()), (((u2.2.1.1.1, (u2.2.1.1.2.1, ())), ()), ())))
def L_spec_l7Image_2 (x : i_spec_l7Image_2.den) : Option (denO o_spec_l7Image_2) := iterF l_spec_l7Image_2 lots x
def F_spec_l7Image (x : denP P_spec_l7Image) : Option (denV R_spec_l7Image × denQ P_spec_l7Image) :=
  (L_spec_l7Image_2 (((), (x.2.1, (([] : List (den YI)), ()))), (((x.1.1, (x.1.2.1, ())), ()), ()))).bind fun z13 =>
  match z13 with
  | .inl x14 =>
    some ((x14.1.1, ()), ((x14.2.1.1.1, (x14.2.1.1.2.1, ())), ()))
  | .inr z13_ =>
    none
abbrev C_spec_l7Image : Con := ⟨P_spec_l7Image, R_spec_l7Image, F_spec_l7Image, false⟩
abbrev G_spec_l7Image : Env := [(131, C_spec_l1Chance), (133, C_spec_EncodeIns), (134, C_spec_l7Ins), (135, C_spec_l1Word)]
theorem g_spec_l7Image : EnvOk Try.prog G_spec_l7Image := (env_cons s_spec_l1Chance (env_cons s_spec_EncodeIns (env_cons s_spec_l7Ins (env_cons s_spec_l1Word env_nil))))
abbrev c_spec_l7Image_2 : Cut := ⟨i_spec_l7Image_2, o_spec_l7Image_2, fun x => iterF l_spec_l7Image_2 lots x⟩
theorem t_spec_l7Image_2 (rec x) : run T G_spec_l7Image [] (nav Try.f82 [1, 1, 0, 0, 0]) (mk 25 i_spec_l7Image_2 x) (loopK i_spec_l7Image_2 o_spec_l7Image_2 rec) = l_spec_l7Image_2 rec x := by kernel_rfl
theorem k_spec_l7Image_2 : CutOk Try.prog 25 (.loop (nav Try.f82 [1, 1, 0, 0, 0])) c_spec_l7Image_2 :=
  loop_cut (L := []) hT g_spec_l7Image t_spec_l7Image_2 (plain_ok (by kernel_rfl)) _
theorem r_spec_l7Image (x) : runFn T G_spec_l7Image [(2, c_spec_l7Image_2)] Try.f82 P_spec_l7Image R_spec_l7Image x = F_spec_l7Image x := by kernel_rfl
theorem s_spec_l7Image : CallsOk Try.prog 82 C_spec_l7Image :=
  fn_calls (L := [(2, c_spec_l7Image_2)]) hT g_spec_l7Image Try.f82 (by kernel_rfl) (by kernel_rfl) (by kernel_rfl) (seq_ok (plain_ok (by kernel_rfl)) (seq_ok (plain_ok (by kernel_rfl)) (seq_ok (block_ok (by kernel_rfl) (loop_ok (by kernel_rfl) k_spec_l7Image_2)) (plain_ok (by kernel_rfl))))) r_spec_l7Image
/-! spec.l1Wide -/
abbrev P_spec_l1Wide : List PK := [.box [.dat Y53, .dat YI] [.dat Y53, .dat YI]]
abbrev R_spec_l1Wide : List VK := [.s (.dat YI)]
def F_spec_l1Wide (x : denP P_spec_l1Wide) : Option (denV R_spec_l1Wide × denQ P_spec_l1Wide) :=
  (F_spec_l1Word ((x.1.1, (x.1.2.1, ())), ())).bind fun r1 =>
  (F_spec_l1Word ((r1.2.1.1, (r1.2.1.2.1, ())), ())).bind fun r2 =>
  (F_spec_l1Word ((r2.2.1.1, (r2.2.1.2.1, ())), ())).bind fun r3 =>
  (F_spec_l1Pick ((r3.2.1.1, (r3.2.1.2.1, ())), [r1.1.1, r2.1.1, r3.1.1, (-1 : Int), (-9223372036854775808 : Int), (9223372036854775807 : Int), (4294967296 : Int), (-5 : Int)], ())).bind fun r4 =>
  some ((r4.1.1, ()), ((r4.2.1.1, (r4.2.1.2.1, ())), ()))
abbrev C_spec_l1Wide : Con := ⟨P_spec_l1Wide, R_spec_l1Wide, F_spec_l1Wide, false⟩
abbrev G_spec_l1Wide : Env := [(80, C_spec_l1Pick), (135, C_spec_l1Word)]
theorem g_spec_l1Wide : EnvOk Try.prog G_spec_l1Wide := (env_cons s_spec_l1Pick (env_cons s_spec_l1Word env_nil))
theorem r_spec_l1Wide (x) : runFn T G_spec_l1Wide [] Try.f132 P_spec_l1Wide R_spec_l1Wide x = F_spec_l1Wide x := by kernel_rfl
theorem s_spec_l1Wide : CallsOk Try.prog 132 C_spec_l1Wide :=
  fn_calls (L := []) hT g_spec_l1Wide Try.f132 (by kernel_rfl) (by kernel_rfl) (by kernel_rfl) (plain_ok (by kernel_rfl)) r_spec_l1Wide
/-! spec.DrawDisassemble -/
abbrev P_spec_DrawDisassemble : List PK := [.val Y53]
abbrev R_spec_DrawDisassemble : List VK := [.s (.own 2 YI)]
def F_spec_DrawDisassemble (x : denP P_spec_DrawDisassemble) : Option (denV R_spec_DrawDisassemble × denQ P_spec_DrawDisassemble) :=
  (F_spec_l1Source (x.1, ())).bind fun r1 =>
  (F_spec_l1Next ((r1.1.1.1, (r1.1.1.2.1, ())), (12 : Int), ())).bind fun r2 =>
  (F_spec_l1Next ((r2.2.1.1, (r2.2.1.2.1, ())), (12 : Int), ())).bind fun r3 =>
  (F_spec_l1Pick ((r3.2.1.1, (r3.2.1.2.1, ())), [r2.1.1, r3.1.1, (80 : Int), (81 : Int)], ())).bind fun r4 =>
  (F_spec_l7Image ((r4.2.1.1, (r4.2.1.2.1, ())), r4.1.1, ())).bind fun r5 =>
  let v6 := ((r5.1.1.length : Nat) : Int)
  if (ltI (0 : Int) v6) = true then
    (F_spec_l1Chance ((r5.2.1.1, (r5.2.1.2.1, ())), (8 : Int), ())).bind fun r7 =>
    if r7.1.1 then
      (F_spec_l1Wide ((r7.2.1.1, (r7.2.1.2.1, ())), ())).bind fun r8 =>
      if 0 ≤ (0 : Int) ∧ (0 : Int) < ((r5.1.1.length : Nat) : Int) then
        ((r5.1.1)[((0 : Int)).toNat]?).bind fun y9 =>
        let v10 := (r5.1.1.set ((0 : Int)).toNat r8.1.1)
        some ((v10, ()), ())
      else none
    else
      some ((r5.1.1, ()), ())
  else
    some ((r5.1.1, ()), ())
abbrev C_spec_DrawDisassemble : Con := ⟨P_spec_DrawDisassemble, R_spec_DrawDisassemble, F_spec_DrawDisassemble, false⟩
abbrev G_spec_DrawDisassemble : Env := [(78, C_spec_l1Source), (80, C_spec_l1Pick), (81, C_spec_l1Next), (82, C_spec_l7Image), (131, C_spec_l1Chance), (132, C_spec_l1Wide)]
theorem g_spec_DrawDisassemble : EnvOk Try.prog G_spec_DrawDisassemble := (env_cons s_spec_l1Source (env_cons s_spec_l1Pick (env_cons s_spec_l1Next (env_cons s_spec_l7Image (env_cons s_spec_l1Chance (env_cons s_spec_l1Wide env_nil))))))
theorem r_spec_DrawDisassemble (x) : runFn T G_spec_DrawDisassemble [] Try.f79 P_spec_DrawDisassemble R_spec_DrawDisassemble x = F_spec_DrawDisassemble x := by kernel_rfl
theorem s_spec_DrawDisassemble : CallsOk Try.prog 79 C_spec_DrawDisassemble :=
  fn_calls (L := []) hT g_spec_DrawDisassemble Try.f79 (by kernel_rfl) (by kernel_rfl) (by kernel_rfl) (plain_ok (by kernel_rfl)) r_spec_DrawDisassemble
/-! spec.DrawPatchImage -/
abbrev P_spec_DrawPatchImage : List PK := [.val Y53]
abbrev R_spec_DrawPatchImage : List VK := [.s (.own 2 YI), .s (.dat YI), .s (.own 2 YI)]
def F_spec_DrawPatchImage (x : denP P_spec_DrawPatchImage) : Option (denV R_spec_DrawPatchImage × denQ P_spec_DrawPatchImage) :=
  (F_spec_l1Source (x.1, ())).bind fun r1 =>
  (F_spec_DrawDisassemble (x.1, ())).bind fun r2 =>
  let v3 := ((r2.1.1.length : Nat) : Int)
  let v4 := (IntKind.i64.wrap (v3 + (1 : Int)))
  (F_spec_l1Next ((r1.1.1.1, (r1.1.1.2.1, ())), v4, ())).bind fun r5 =>
  let v6 := (IntKind.i64.wrap (v3 + (1 : Int)))
  (F_spec_l1Next ((r5.2.1.1, (r5.2.1.2.1, ())), v6, ())).bind fun r7 =>
  let v8 := (IntKind.i64.wrap (v3 + (1 : Int)))
  (F_spec_l1Pick ((r7.2.1.1, (r7.2.1.2.1, ())), [r5.1.1, r7.1.1, v3, v8, (-1 : Int)], ())).bind fun r9 =>
  (F_spec_l1Next ((r9.2.1.1, (r9.2.1.2.1, ())), (9 : Int), ())).bind fun r10 =>
  (F_spec_l7Image ((r10.2.1.1, (r10.2.1.2.1, ())), r10.1.1, ())).bind fun r11 =>
  some ((r2.1.1, r9.1.1, r11.1.1, ()), ())
abbrev C_spec_DrawPatchImage : Con := ⟨P_spec_DrawPatchImage, R_spec_DrawPatchImage, F_spec_DrawPatchImage, false⟩
abbrev G_spec_DrawPatchImage : Env := [(78, C_spec_l1Source), (79, C_spec_DrawDisassemble), (80, C_spec_l1Pick), (81, C_spec_l1Next), (82, C_spec_l7Image)]
theorem g_spec_DrawPatchImage : EnvOk Try.prog G_spec_DrawPatchImage := (env_cons s_spec_l1Source (env_cons s_spec_DrawDisassemble (env_cons s_spec_l1Pick (env_cons s_spec_l1Next (env_cons s_spec_l7Image env_nil)))))
theorem r_spec_DrawPatchImage (x) : runFn T G_spec_DrawPatchImage [] Try.f36 P_spec_DrawPatchImage R_spec_DrawPatchImage x = F_spec_DrawPatchImage x := by kernel_rfl
theorem s_spec_DrawPatchImage : CallsOk Try.prog 36 C_spec_DrawPatchImage :=
  fn_calls (L := []) hT g_spec_DrawPatchImage Try.f36 (by kernel_rfl) (by kernel_rfl) (by kernel_rfl) (plain_ok (by kernel_rfl)) r_spec_DrawPatchImage
/-! laws.FnPatches -/
abbrev P_laws_FnPatches : List PK := [.val Y53]
abbrev R_laws_FnPatches : List VK := [.s (.dat .bool)]
abbrev i_laws_FnPatches_8 : Shp := { slots := [(3, .s (.own 2 YI)), (4, .s (.dat YI)), (5, .s (.own 2 YI)), (6, .s (.ptr 6 0)), (7, .s (.dat YI))], boxes := [(6, [.dat YI, .dat YI, .own 2 YI])], rows := [] }
abbrev o_laws_FnPatches_8 : List (Ex × Shp) := [(.exit 0, { slots := [(3, .s (.own 2 YI)), (4, .s (.dat YI)), (5, .s (.own 2 YI)), (6, .s (.ptr 6 0))], boxes := [(6, [.dat YI, .dat YI, .own 2 YI])], rows := [] }), (.ret, { slots := [(2, .s (.dat .bool))], boxes := [], rows := [] })]
def l_laws_FnPatches_8 (rec : i_laws_FnPatches_8.den → Option (denO o_laws_FnPatches_8)) (u8 : i_laws_FnPatches_8.den) : Option (denO o_laws_FnPatches_8) :=
  let v13 := ((u8.2.1.1.2.2.1.length : Nat) : Int)
  if (ltI u8.1.2.2.2.2.1 v13) then
    if (leI u8.1.2.1 u8.1.2.2.2.2.1) = true then
      let v14 := ((u8.1.2.2.1.length : Nat) : Int)
      let v15 := (IntKind.i64.wrap (u8.1.2.1 + v14))
      if (ltI u8.1.2.2.2.2.1 v15) = true then
        if 0 ≤ u8.1.2.2.2.2.1 ∧ u8.1.2.2.2.2.1 < ((u8.2.1.1.2.2.1.length : Nat) : Int) then
          ((u8.2.1.1.2.2.1)[(u8.1.2.2.2.2.1).toNat]?).bind fun y16 =>
          let v17 := (IntKind.i64.wrap (u8.1.2.2.2.2.1 - u8.1.2.1))
          if 0 ≤ v17 ∧ v17 < ((u8.1.2.2.1.length : Nat) : Int) then
            ((u8.1.2.2.1)[(v17).toNat]?).bind fun y18 =>
            if (y16 != y18) = false then
              if (!(ltI u8.1.2.2.2.2.1 v15)) = true then
                let v19 := ((u8.1.1.length : Nat) : Int)
                if (leI v19 u8.1.2.2.2.2.1) = false then
                  if 0 ≤ u8.1.2.2.2.2.1 ∧ u8.1.2.2.2.2.1 < ((u8.2.1.1.2.2.1.length : Nat) : Int) then
                    ((u8.2.1.1.2.2.1)[(u8.1.2.2.2.2.1).toNat]?).bind fun y20 =>
                    if 0 ≤ u8.1.2.2.2.2.1 ∧ u8.1.2.2.2.2.1 < ((u8.1.1.length : Nat) : Int) then
                      ((u8.1.1)[(u8.1.2.2.2.2.1).toNat]?).bind fun y21 =>
                      if (y20 != y21) then
                        some (.inr (.inl ((false, ()), ((), ()))))
                      else
                        let v22 := (IntKind.i64.wrap (u8.1.2.2.2.2.1 + (1 : Int)))
                        rec ((u8.1.1, (u8.1.2.1, (u8.1.2.2.1, ((), (v22, ()))))), (((u8.2.1.1.1, (u8.2.1.1.2.1, (u8.2.1.1.2.2.1, ()))), ()), ()))
                    else none
                  else none
                else
                  some (.inr (.inl ((false, ()), ((), ()))))
              else
                let v23 := (IntKind.i64.wrap (u8.1.2.2.2.2.1 + (1 : Int)))
                rec ((u8.1.1, (u8.1.2.1, (u8.1.2.2.1, ((), (v23, ()))))), (((u8.2.1.1.1, (u8.2.1.1.2.1, (u8.2.1.1.2.2.1, ()))), ()), ()))
            else
              some (.inr (.inl ((false, ()), ((), ()))))
          else none
        else none
      else
        if (!(ltI u8.1.2.2.2.2.1 v15)) = true then
          let v24 := ((u8.1.1.length : Nat) : Int)
          if (leI v24 u8.1.2.2.2.2.1) = false then
            if 0 ≤ u8.1.2.2.2.2.1 ∧ u8.1.2.2.2.2.1 < ((u8.2.1.1.2.2.1.length : Nat) : Int) then
              ((u8.2.1.1.2.2.1)[(u8.1.2.2.2.2.1).toNat]?).bind fun y25 =>
              if 0 ≤ u8.1.2.2.2.2.1 ∧ u8.1.2.2.2.2.1 < ((u8.1.1.length : Nat) : Int) then
                ((u8.1.1)[(u8.1.2.2.2.2.1).toNat]?).bind fun y26 =>
                if (y25 != y26) then
                  some (.inr (.inl ((false, ()), ((), ()))))
                else
                  let v27 := (IntKind.i64.wrap (u8.1.2.2.2.2.1 + (1 : Int)))
                  rec ((u8.1.1, (u8.1.2.1, (u8.1.2.2.1, ((), (v27, ()))))), (((u8.2.1.1.1, (u8.2.1.1.2.1, (u8.2.1.1.2.2.1, ()))), ()), ()))
              else none
            else none
          else
            some (.inr (.inl ((false, ()), ((), ()))))
        else
          let v28 := (IntKind.i64.wrap (u8.1.2.2.2.2.1 + (1 : Int)))
          rec ((u8.1.1, (u8.1.2.1, (u8.1.2.2.1, ((), (v28, ()))))), (((u8.2.1.1.1, (u8.2.1.1.2.1, (u8.2.1.1.2.2.1, ()))), ()), ()))
    else
      let v29 := ((u8.1.1.length : Nat) : Int)
      if (leI v29 u8.1.2.2.2.2.1) = false then
        if 0 ≤ u8.1.2.2.2.2.1 ∧ u8.1.2.2.2.2.1 < ((u8.2.1.1.2.2.1.length : Nat) : Int) then
          ((u8.2.1.1.2.2.1)[(u8.1.2.2.2.2.1).toNat]?).bind fun y30 =>
          if 0 ≤ u8.1.2.2.2.2.1 ∧ u8.1.2.2.2.2.1 < ((u8.1.1.length : Nat) : Int) then
            ((u8.1.1)[(u8.1.2.2.2.2.1).toNat]?).bind fun y31 =>
            if (y30 != y31) then
              some (.inr (.inl ((false, ()), ((), ()))))
            else
              let v32 := (IntKind.i64.wrap (u8.1.2.2.2.2.1 + (1 : Int)))
              rec ((u8.1.1, (u8.1.2.1, (u8.1.2.2.1, ((), (v32, ()))))), (((u8.2.1.1.1, (u8.2.1.1.2.1, (u8.2.1.1.2.2.1, ()))), ()), ()))
          else none
        else none
      else
        some (.inr (.inl ((false, ()), ((), ()))))
  else
    some (.inl ((u8.1.1, (u8.1.2.1, (u8.1.2.2.1, ((), ())))), (((u8.2.1.1.1, (u8.2.1.1.2.1, (u8.2.1.1.2.2.1, ()))), ()), ())))
def L_laws_FnPatches_8 (x : i_laws_FnPatches_8.den) : Option (denO o_laws_FnPatches_8) := iterF l_laws_FnPatches_8 lots x
def F_laws_FnPatches (x : denP P_laws_FnPatches) : Option (denV R_laws_FnPatches × denQ P_laws_FnPatches) :=
  (F_laws_lwBig (x.1, ())).bind fun r1 =>
  if r1.1.1 then
    some ((true, ()), ())
  else
    (F_spec_DrawPatchImage (x.1, ())).bind fun r2 =>
    (F_impl_PatchImage (r2.1.1, r2.1.2.1, r2.1.2.2.1, ())).bind fun r3 =>
    if (r3.1.1.1 != (0 : Int)) then
      (F_spec_PatchImage (r2.1.1, r2.1.2.1, r2.1.2.2.1, ())).bind fun r4 =>
      some (((r4.1.1.1 == r3.1.1.1), ()), ())
    else
      (L_laws_FnPatches_8 ((r2.1.1, (r2.1.2.1, (r2.1.2.2.1, ((), ((0 : Int), ()))))), (((r3.1.1.1, (r3.1.1.2.1, (r3.1.1.2.2.1, ()))), ()), ()))).bind fun z33 =>
      match z33 with
      | .inl x34 =>
        let v35 := ((x34.2.1.1.2.2.1.length : Nat) : Int)
        let v36 := ((x34.1.1.length : Nat) : Int)
        if (leI v36 v35) = true then
          let v37 := ((x34.2.1.1.2.2.1.length : Nat) : Int)
          let v38 := ((x34.1.2.2.1.length : Nat) : Int)
          let v39 := (IntKind.i64.wrap (x34.1.2.1 + v38))
          some (((leI v39 v37), ()), ())
        else
          some ((false, ()), ())
      | .inr z33_ =>
        match z33_ with
        | .inl x40 =>
          some ((x40.1.1, ()), ())
        | .inr z33__ =>
          none
abbrev C_laws_FnPatches : Con := ⟨P_laws_FnPatches, R_laws_FnPatches, F_laws_FnPatches, false⟩
abbrev G_laws_FnPatches : Env := [(19, C_spec_PatchImage), (20, C_impl_PatchImage), (35, C_laws_lwBig), (36, C_spec_DrawPatchImage)]
theorem g_laws_FnPatches : EnvOk Try.prog G_laws_FnPatches := (env_cons s_spec_PatchImage (env_cons s_impl_PatchImage (env_cons s_laws_lwBig (env_cons s_spec_DrawPatchImage env_nil))))
abbrev c_laws_FnPatches_8 : Cut := ⟨i_laws_FnPatches_8, o_laws_FnPatches_8, fun x => iterF l_laws_FnPatches_8 lots x⟩
theorem t_laws_FnPatches_8 (rec x) : run T G_laws_FnPatches [] (nav Try.f7 [1, 1, 1, 1, 1, 0, 1, 0, 0]) (mk 105 i_laws_FnPatches_8 x) (loopK i_laws_FnPatches_8 o_laws_FnPatches_8 rec) = l_laws_FnPatches_8 rec x := by kernel_rfl
theorem k_laws_FnPatches_8 : CutOk Try.prog 105 (.loop (nav Try.f7 [1, 1, 1, 1, 1, 0, 1, 0, 0])) c_laws_FnPatches_8 :=
  loop_cut (L := []) hT g_laws_FnPatches t_laws_FnPatches_8 (plain_ok (by kernel_rfl)) _
theorem r_laws_FnPatches (x) : runFn T G_laws_FnPatches [(8, c_laws_FnPatches_8)] Try.f7 P_laws_FnPatches R_laws_FnPatches x = F_laws_FnPatches x := by kernel_rfl
theorem s_laws_FnPatches : CallsOk Try.prog 7 C_laws_FnPatches :=
  fn_calls (L := [(8, c_laws_FnPatches_8)]) hT g_laws_FnPatches Try.f7 (by kernel_rfl) (by kernel_rfl) (by kernel_rfl) (seq_ok (plain_ok (by kernel_rfl)) (seq_ok (plain_ok (by kernel_rfl)) (seq_ok (plain_ok (by kernel_rfl)) (seq_ok (plain_ok (by kernel_rfl)) (seq_ok (plain_ok (by kernel_rfl)) (seq_ok (seq_ok (plain_ok (by kernel_rfl)) (block_ok (by kernel_rfl) (loop_ok (by kernel_rfl) k_laws_FnPatches_8))) (plain_ok (by kernel_rfl)))))))) r_laws_FnPatches
theorem q_laws_FnPatches : Sound Try.prog 7 C_laws_FnPatches :=
  fn_snd (L := [(8, c_laws_FnPatches_8)]) hT g_laws_FnPatches Try.f7 (by kernel_rfl) (by kernel_rfl) (seq_ok (plain_ok (by kernel_rfl)) (seq_ok (plain_ok (by kernel_rfl)) (seq_ok (plain_ok (by kernel_rfl)) (seq_ok (plain_ok (by kernel_rfl)) (seq_ok (plain_ok (by kernel_rfl)) (seq_ok (seq_ok (plain_ok (by kernel_rfl)) (block_ok (by kernel_rfl) (loop_ok (by kernel_rfl) k_laws_FnPatches_8))) (plain_ok (by kernel_rfl)))))))) r_laws_FnPatches
end Go.Proofs.Yteddlkdbefloaaa
