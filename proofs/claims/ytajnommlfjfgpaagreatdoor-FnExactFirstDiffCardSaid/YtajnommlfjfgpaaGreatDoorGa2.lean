/- The functions of the laws, each as a plain function of data (F), and that the program's text does what F says. Printed by a program (wip/tools/gen.py). -/
import Derived.Test.YtajnommlfjfgpaaGreatDoorGa1
namespace Go.Proofs.YtajnommlfjfgpaaGreatDoor
open Go Go.RowKit S Go.Proofs
set_option maxRecDepth 100000
set_option linter.unusedVariables false
abbrev P_v : List PK := [.val Y42]
abbrev R_v : List VK := [.s (.dat YI)]
def F_v (x : denP P_v) : Option (denV R_v × denQ P_v) :=
 (F_d (x.1.1, (1 : Int), (26 : Int), ())).bind fun r1 =>
 if (!r1.1.1) = false then
  (F_d (x.1.2.1, (0 : Int), (15 : Int), ())).bind fun r2 =>
  if (!r2.1.1) = false then
   (F_d (x.1.2.2.1, (0 : Int), (15 : Int), ())).bind fun r3 =>
   if (!r3.1.1) = false then
    (F_d (x.1.2.2.2.1, (0 : Int), (65535 : Int), ())).bind fun r4 =>
    if (!r4.1.1) then
     some (((3 : Int), ()), ())
    else
     (F_s (x.1.1, ())).bind fun r5 =>
     if r5.1.1 = true then
      if (x.1.2.1 != (0 : Int)) = false then
       if r5.1.2.1 = true then
        if (x.1.2.2.1 != (0 : Int)) = false then
         if r5.1.2.2.1 = true then
          if (x.1.2.2.2.1 != (0 : Int)) = false then
           if (leI x.1.1 (11 : Int)) = true then
            if (ltI (15 : Int) x.1.2.2.2.1) = false then
             if (x.1.1 == (21 : Int)) = false then
              if (x.1.1 == (22 : Int)) = true then
               if (ltI (10 : Int) x.1.2.2.2.1) then
                some (((1 : Int), ()), ())
               else
                some (((0 : Int), ()), ())
              else
               some (((0 : Int), ()), ())
             else
              if (ltI (10 : Int) x.1.2.2.2.1) then
               some (((1 : Int), ()), ())
              else
               some (((0 : Int), ()), ())
            else
             some (((1 : Int), ()), ())
           else
            if (x.1.1 == (21 : Int)) = false then
             if (x.1.1 == (22 : Int)) = true then
              if (ltI (10 : Int) x.1.2.2.2.1) then
               some (((1 : Int), ()), ())
              else
               some (((0 : Int), ()), ())
             else
              some (((0 : Int), ()), ())
            else
             if (ltI (10 : Int) x.1.2.2.2.1) then
              some (((1 : Int), ()), ())
             else
              some (((0 : Int), ()), ())
          else
           some (((1 : Int), ()), ())
         else
          if (leI x.1.1 (11 : Int)) = true then
           if (ltI (15 : Int) x.1.2.2.2.1) = false then
            if (x.1.1 == (21 : Int)) = false then
             if (x.1.1 == (22 : Int)) = true then
              if (ltI (10 : Int) x.1.2.2.2.1) then
               some (((1 : Int), ()), ())
              else
               some (((0 : Int), ()), ())
             else
              some (((0 : Int), ()), ())
            else
             if (ltI (10 : Int) x.1.2.2.2.1) then
              some (((1 : Int), ()), ())
             else
              some (((0 : Int), ()), ())
           else
            some (((1 : Int), ()), ())
          else
           if (x.1.1 == (21 : Int)) = false then
            if (x.1.1 == (22 : Int)) = true then
             if (ltI (10 : Int) x.1.2.2.2.1) then
              some (((1 : Int), ()), ())
             else
              some (((0 : Int), ()), ())
            else
             some (((0 : Int), ()), ())
           else
            if (ltI (10 : Int) x.1.2.2.2.1) then
             some (((1 : Int), ()), ())
            else
             some (((0 : Int), ()), ())
        else
         some (((1 : Int), ()), ())
       else
        if r5.1.2.2.1 = true then
         if (x.1.2.2.2.1 != (0 : Int)) = false then
          if (leI x.1.1 (11 : Int)) = true then
           if (ltI (15 : Int) x.1.2.2.2.1) = false then
            if (x.1.1 == (21 : Int)) = false then
             if (x.1.1 == (22 : Int)) = true then
              if (ltI (10 : Int) x.1.2.2.2.1) then
               some (((1 : Int), ()), ())
              else
               some (((0 : Int), ()), ())
             else
              some (((0 : Int), ()), ())
            else
             if (ltI (10 : Int) x.1.2.2.2.1) then
              some (((1 : Int), ()), ())
             else
              some (((0 : Int), ()), ())
           else
            some (((1 : Int), ()), ())
          else
           if (x.1.1 == (21 : Int)) = false then
            if (x.1.1 == (22 : Int)) = true then
             if (ltI (10 : Int) x.1.2.2.2.1) then
              some (((1 : Int), ()), ())
             else
              some (((0 : Int), ()), ())
            else
             some (((0 : Int), ()), ())
           else
            if (ltI (10 : Int) x.1.2.2.2.1) then
             some (((1 : Int), ()), ())
            else
             some (((0 : Int), ()), ())
         else
          some (((1 : Int), ()), ())
        else
         if (leI x.1.1 (11 : Int)) = true then
          if (ltI (15 : Int) x.1.2.2.2.1) = false then
           if (x.1.1 == (21 : Int)) = false then
            if (x.1.1 == (22 : Int)) = true then
             if (ltI (10 : Int) x.1.2.2.2.1) then
              some (((1 : Int), ()), ())
             else
              some (((0 : Int), ()), ())
            else
             some (((0 : Int), ()), ())
           else
            if (ltI (10 : Int) x.1.2.2.2.1) then
             some (((1 : Int), ()), ())
            else
             some (((0 : Int), ()), ())
          else
           some (((1 : Int), ()), ())
         else
          if (x.1.1 == (21 : Int)) = false then
           if (x.1.1 == (22 : Int)) = true then
            if (ltI (10 : Int) x.1.2.2.2.1) then
             some (((1 : Int), ()), ())
            else
             some (((0 : Int), ()), ())
           else
            some (((0 : Int), ()), ())
          else
           if (ltI (10 : Int) x.1.2.2.2.1) then
            some (((1 : Int), ()), ())
           else
            some (((0 : Int), ()), ())
      else
       some (((1 : Int), ()), ())
     else
      if r5.1.2.1 = true then
       if (x.1.2.2.1 != (0 : Int)) = false then
        if r5.1.2.2.1 = true then
         if (x.1.2.2.2.1 != (0 : Int)) = false then
          if (leI x.1.1 (11 : Int)) = true then
           if (ltI (15 : Int) x.1.2.2.2.1) = false then
            if (x.1.1 == (21 : Int)) = false then
             if (x.1.1 == (22 : Int)) = true then
              if (ltI (10 : Int) x.1.2.2.2.1) then
               some (((1 : Int), ()), ())
              else
               some (((0 : Int), ()), ())
             else
              some (((0 : Int), ()), ())
            else
             if (ltI (10 : Int) x.1.2.2.2.1) then
              some (((1 : Int), ()), ())
             else
              some (((0 : Int), ()), ())
           else
            some (((1 : Int), ()), ())
          else
           if (x.1.1 == (21 : Int)) = false then
            if (x.1.1 == (22 : Int)) = true then
             if (ltI (10 : Int) x.1.2.2.2.1) then
              some (((1 : Int), ()), ())
             else
              some (((0 : Int), ()), ())
            else
             some (((0 : Int), ()), ())
           else
            if (ltI (10 : Int) x.1.2.2.2.1) then
             some (((1 : Int), ()), ())
            else
             some (((0 : Int), ()), ())
         else
          some (((1 : Int), ()), ())
        else
         if (leI x.1.1 (11 : Int)) = true then
          if (ltI (15 : Int) x.1.2.2.2.1) = false then
           if (x.1.1 == (21 : Int)) = false then
            if (x.1.1 == (22 : Int)) = true then
             if (ltI (10 : Int) x.1.2.2.2.1) then
              some (((1 : Int), ()), ())
             else
              some (((0 : Int), ()), ())
            else
             some (((0 : Int), ()), ())
           else
            if (ltI (10 : Int) x.1.2.2.2.1) then
             some (((1 : Int), ()), ())
            else
             some (((0 : Int), ()), ())
          else
           some (((1 : Int), ()), ())
         else
          if (x.1.1 == (21 : Int)) = false then
           if (x.1.1 == (22 : Int)) = true then
            if (ltI (10 : Int) x.1.2.2.2.1) then
             some (((1 : Int), ()), ())
            else
             some (((0 : Int), ()), ())
           else
            some (((0 : Int), ()), ())
          else
           if (ltI (10 : Int) x.1.2.2.2.1) then
            some (((1 : Int), ()), ())
           else
            some (((0 : Int), ()), ())
       else
        some (((1 : Int), ()), ())
      else
       if r5.1.2.2.1 = true then
        if (x.1.2.2.2.1 != (0 : Int)) = false then
         if (leI x.1.1 (11 : Int)) = true then
          if (ltI (15 : Int) x.1.2.2.2.1) = false then
           if (x.1.1 == (21 : Int)) = false then
            if (x.1.1 == (22 : Int)) = true then
             if (ltI (10 : Int) x.1.2.2.2.1) then
              some (((1 : Int), ()), ())
             else
              some (((0 : Int), ()), ())
            else
             some (((0 : Int), ()), ())
           else
            if (ltI (10 : Int) x.1.2.2.2.1) then
             some (((1 : Int), ()), ())
            else
             some (((0 : Int), ()), ())
          else
           some (((1 : Int), ()), ())
         else
          if (x.1.1 == (21 : Int)) = false then
           if (x.1.1 == (22 : Int)) = true then
            if (ltI (10 : Int) x.1.2.2.2.1) then
             some (((1 : Int), ()), ())
            else
             some (((0 : Int), ()), ())
           else
            some (((0 : Int), ()), ())
          else
           if (ltI (10 : Int) x.1.2.2.2.1) then
            some (((1 : Int), ()), ())
           else
            some (((0 : Int), ()), ())
        else
         some (((1 : Int), ()), ())
       else
        if (leI x.1.1 (11 : Int)) = true then
         if (ltI (15 : Int) x.1.2.2.2.1) = false then
          if (x.1.1 == (21 : Int)) = false then
           if (x.1.1 == (22 : Int)) = true then
            if (ltI (10 : Int) x.1.2.2.2.1) then
             some (((1 : Int), ()), ())
            else
             some (((0 : Int), ()), ())
           else
            some (((0 : Int), ()), ())
          else
           if (ltI (10 : Int) x.1.2.2.2.1) then
            some (((1 : Int), ()), ())
           else
            some (((0 : Int), ()), ())
         else
          some (((1 : Int), ()), ())
        else
         if (x.1.1 == (21 : Int)) = false then
          if (x.1.1 == (22 : Int)) = true then
           if (ltI (10 : Int) x.1.2.2.2.1) then
            some (((1 : Int), ()), ())
           else
            some (((0 : Int), ()), ())
          else
           some (((0 : Int), ()), ())
         else
          if (ltI (10 : Int) x.1.2.2.2.1) then
           some (((1 : Int), ()), ())
          else
           some (((0 : Int), ()), ())
   else
    some (((3 : Int), ()), ())
  else
   some (((3 : Int), ()), ())
 else
  some (((3 : Int), ()), ())
abbrev C_v : Con := ⟨P_v, R_v, F_v, false⟩
abbrev G_v : Env := [(59, C_d), (270, C_s)]
theorem g_v : Qe Tryz.prog G_v := (Qa s_d (Qa s_s Qc))
theorem r_v (x) : Qf T G_v [] Tryz.f220 C_v.ps C_v.rs x = C_v.F x := by kernel_rfl
theorem s_v : Qb Tryz.prog 220 C_v := fnC (L := []) hT g_v Tryz.f220 okP r_v
abbrev P_cv : List PK := [.val YI]
abbrev R_cv : List VK := [.s (.dat Y42), .s (.dat .bool)]
def F_cv (x : denP P_cv) : Option (denV R_cv × denQ P_cv) :=
 (F_d (x.1, (0 : Int), (4294967295 : Int), ())).bind fun r1 =>
 if (!r1.1.1) then
  some ((((0 : Int), ((0 : Int), ((0 : Int), ((0 : Int), ())))), false, ()), ())
 else
  let v2 := ((x.1).fdiv (2 ^ 24))
  let v3 := ((x.1).fdiv (2 ^ 20))
  let v4 := (iand .i64 v3 (15 : Int))
  let v5 := ((x.1).fdiv (2 ^ 16))
  let v6 := (iand .i64 v5 (15 : Int))
  let v7 := (iand .i64 x.1 (65535 : Int))
  (F_v ((v2, (v4, (v6, (v7, ())))), ())).bind fun r8 =>
  some (((v2, (v4, (v6, (v7, ())))), (r8.1.1 == (0 : Int)), ()), ())
abbrev C_cv : Con := ⟨P_cv, R_cv, F_cv, false⟩
abbrev G_cv : Env := [(59, C_d), (220, C_v)]
theorem g_cv : Qe Tryz.prog G_cv := (Qa s_d (Qa s_v Qc))
theorem r_cv (x) : Qf T G_cv [] Tryz.f149 C_cv.ps C_cv.rs x = C_cv.F x := by kernel_rfl
theorem s_cv : Qb Tryz.prog 149 C_cv := fnC (L := []) hT g_cv Tryz.f149 okP r_cv
abbrev P_cw : List PK := [.val YI, .val YI]
abbrev R_cw : List VK := [.s (.dat YI)]
def F_cw (x : denP P_cw) : Option (denV R_cw × denQ P_cw) :=
 let v1 := (IntKind.u32.wrap x.1)
 let v2 := (IntKind.u32.wrap x.2.1)
 let v3 := (IntKind.u32.wrap (v1 + v2))
 let v4 := (IntKind.i64.wrap v3)
 some ((v4, ()), ())
abbrev C_cw : Con := ⟨P_cw, R_cw, F_cw, false⟩
abbrev G_cw : Env := []
theorem g_cw : Qe Tryz.prog G_cw := Qc
theorem r_cw (x) : Qf T G_cw [] Tryz.f221 C_cw.ps C_cw.rs x = C_cw.F x := by kernel_rfl
theorem s_cw : Qb Tryz.prog 221 C_cw := fnC (L := []) hT g_cw Tryz.f221 okP r_cw
abbrev P_cx : List PK := [.val YI]
abbrev R_cx : List VK := [.s (.dat YI)]
def F_cx (x : denP P_cx) : Option (denV R_cx × denQ P_cx) :=
 let v1 := (IntKind.u16.wrap x.1)
 let v2 := (IntKind.i16.wrap v1)
 let v3 := (IntKind.i64.wrap v2)
 some ((v3, ()), ())
abbrev C_cx : Con := ⟨P_cx, R_cx, F_cx, false⟩
abbrev G_cx : Env := []
theorem g_cx : Qe Tryz.prog G_cx := Qc
theorem r_cx (x) : Qf T G_cx [] Tryz.f222 C_cx.ps C_cx.rs x = C_cx.F x := by kernel_rfl
theorem s_cx : Qb Tryz.prog 222 C_cx := fnC (L := []) hT g_cx Tryz.f222 okP r_cx
abbrev P_cy : List PK := [.box [.dat Y27, .own 2 YI, .dat YI, .own 2 YI, .dat YI, .own 2 YI, .dat .bool, .dat .bool, .dat .bool, .dat YI, .dat Y24, .own 2 YI, .dat YI] [.dat Y27, .own 2 YI, .dat YI, .own 2 YI, .dat YI, .own 2 YI, .dat .bool, .dat .bool, .dat .bool, .dat YI, .dat Y24, .own 2 YI, .dat YI], .val YI, .val YI]
abbrev R_cy : List VK := []
def F_cy (x : denP P_cy) : Option (denV R_cy × denQ P_cy) :=
 if (x.2.1 != (0 : Int)) then
  if 0 ≤ x.2.1 ∧ x.2.1 < ((x.1.2.2.2.1.length : Nat) : Int) then
   ((x.1.2.2.2.1)[(x.2.1).toNat]?).bind fun y1 =>
   let v2 := (x.1.2.2.2.1.set (x.2.1).toNat x.2.2.1)
   some ((), ((x.1.1, (x.1.2.1, (x.1.2.2.1, (v2, (x.1.2.2.2.2.1, (x.1.2.2.2.2.2.1, (x.1.2.2.2.2.2.2.1, (x.1.2.2.2.2.2.2.2.1, (x.1.2.2.2.2.2.2.2.2.1, (x.1.2.2.2.2.2.2.2.2.2.1, (x.1.2.2.2.2.2.2.2.2.2.2.1, (x.1.2.2.2.2.2.2.2.2.2.2.2.1, (x.1.2.2.2.2.2.2.2.2.2.2.2.2.1, ()))))))))))))), ()))
  else none
 else
  some ((), (x.1, ()))
abbrev C_cy : Con := ⟨P_cy, R_cy, F_cy, false⟩
abbrev G_cy : Env := []
theorem g_cy : Qe Tryz.prog G_cy := Qc
theorem r_cy (x) : Qf T G_cy [] Tryz.f223 C_cy.ps C_cy.rs x = C_cy.F x := by kernel_rfl
theorem s_cy : Qb Tryz.prog 223 C_cy := fnC (L := []) hT g_cy Tryz.f223 okP r_cy
abbrev P_cz : List PK := [.box [.own 2 YI, .dat YI, .own 2 YI, .dat .bool, .dat .bool, .dat .bool, .dat YI, .dat Y24, .own 2 YI] [.own 2 YI, .dat YI, .own 2 YI, .dat .bool, .dat .bool, .dat .bool, .dat YI, .dat Y24, .own 2 YI], .val YI]
abbrev R_cz : List VK := [.s (.dat YI)]
def F_cz (x : denP P_cz) : Option (denV R_cz × denQ P_cz) :=
 if (x.2.1 == (1 : Int)) then
  let v1 := ((x.1.2.2.2.2.2.2.2.1.length : Nat) : Int)
  if (v1 == (0 : Int)) then
   some (((0 : Int), ()), (x.1, ()))
  else
   ((x.1.2.2.2.2.2.2.2.1)[((0 : Int)).toNat]?).bind fun y2 =>
   if 0 ≤ (1 : Int) ∧ (1 : Int) ≤ ((x.1.2.2.2.2.2.2.2.1.length : Nat) : Int) ∧ ((x.1.2.2.2.2.2.2.2.1.length : Nat) : Int) ≤ ((x.1.2.2.2.2.2.2.2.1.length : Nat) : Int) then
    let v3 := ((x.1.2.2.2.2.2.2.2.1.drop ((1 : Int)).toNat).take ((((x.1.2.2.2.2.2.2.2.1.length : Nat) : Int)).toNat - ((1 : Int)).toNat))
    some ((y2, ()), ((x.1.1, (x.1.2.1, (x.1.2.2.1, (x.1.2.2.2.1, (x.1.2.2.2.2.1, (x.1.2.2.2.2.2.1, (x.1.2.2.2.2.2.2.1, (v3, (x.1.2.2.2.2.2.2.2.2.1, ()))))))))), ()))
   else none
 else
  if (x.2.1 == (2 : Int)) then
   some ((x.1.2.2.2.2.2.2.1, ()), (x.1, ()))
  else
   if (x.2.1 == (3 : Int)) then
    if 0 ≤ (9 : Int) ∧ (9 : Int) < ((x.1.2.2.1.length : Nat) : Int) then
     ((x.1.2.2.1)[((9 : Int)).toNat]?).bind fun y4 =>
     some ((y4, ()), (x.1, ()))
    else none
   else
    if (x.2.1 == (4 : Int)) then
     (F_cl (x.1, ())).bind fun r5 =>
     some ((r5.1.1, ()), (x.1, ()))
    else
     if (x.2.1 == (6 : Int)) then
      let v6 := ((x.1.2.2.2.2.2.2.2.1.length : Nat) : Int)
      some ((v6, ()), (x.1, ()))
     else
      some (((0 : Int), ()), (x.1, ()))
abbrev C_cz : Con := ⟨P_cz, R_cz, F_cz, false⟩
abbrev G_cz : Env := [(148, C_cl)]
theorem g_cz : Qe Tryz.prog G_cz := (Qa s_cl Qc)
theorem r_cz (x) : Qf T G_cz [] Tryz.f271 C_cz.ps C_cz.rs x = C_cz.F x := by kernel_rfl
theorem s_cz : Qb Tryz.prog 271 C_cz := fnC (L := []) hT g_cz Tryz.f271 okP r_cz
abbrev P_k : List PK := [.val YI]
abbrev R_k : List VK := [.s (.dat YI)]
def F_k (x : denP P_k) : Option (denV R_k × denQ P_k) :=
 let v1 := (IntKind.u32.wrap x.1)
 let v2 := (IntKind.i64.wrap v1)
 some ((v2, ()), ())
abbrev C_k : Con := ⟨P_k, R_k, F_k, false⟩
abbrev G_k : Env := []
theorem g_k : Qe Tryz.prog G_k := Qc
theorem r_k (x) : Qf T G_k [] Tryz.f274 C_k.ps C_k.rs x = C_k.F x := by kernel_rfl
theorem s_k : Qb Tryz.prog 274 C_k := fnC (L := []) hT g_k Tryz.f274 okP r_k
abbrev P_l : List PK := [.box [.own 2 YI, .dat YI, .own 2 YI, .dat .bool, .dat .bool, .dat .bool, .dat YI, .dat Y24, .own 2 YI] [.own 2 YI, .dat YI, .own 2 YI, .dat .bool, .dat .bool, .dat .bool, .dat YI, .dat Y24, .own 2 YI], .val YI, .val YI]
abbrev R_l : List VK := []
def F_l (x : denP P_l) : Option (denV R_l × denQ P_l) :=
 (F_k (x.2.2.1, ())).bind fun r1 =>
 if (x.2.1 == (0 : Int)) then
  let v2 := ((r1.1.1).tmod (4 : Int))
  if 0 ≤ x.2.1 ∧ x.2.1 < ((x.1.2.2.1.length : Nat) : Int) then
   ((x.1.2.2.1)[(x.2.1).toNat]?).bind fun y3 =>
   let v4 := (x.1.2.2.1.set (x.2.1).toNat v2)
   some ((), ((x.1.1, (x.1.2.1, (v4, (x.1.2.2.2.1, (x.1.2.2.2.2.1, (x.1.2.2.2.2.2.1, (x.1.2.2.2.2.2.2.1, (x.1.2.2.2.2.2.2.2.1, (x.1.2.2.2.2.2.2.2.2.1, ()))))))))), ()))
  else none
 else
  if (x.2.1 == (7 : Int)) then
   let v5 := ((r1.1.1).tmod (8 : Int))
   if 0 ≤ x.2.1 ∧ x.2.1 < ((x.1.2.2.1.length : Nat) : Int) then
    ((x.1.2.2.1)[(x.2.1).toNat]?).bind fun y6 =>
    let v7 := (x.1.2.2.1.set (x.2.1).toNat v5)
    some ((), ((x.1.1, (x.1.2.1, (v7, (x.1.2.2.2.1, (x.1.2.2.2.2.1, (x.1.2.2.2.2.2.1, (x.1.2.2.2.2.2.2.1, (x.1.2.2.2.2.2.2.2.1, (x.1.2.2.2.2.2.2.2.2.1, ()))))))))), ()))
   else none
  else
   if (x.2.1 == (10 : Int)) then
    if 0 ≤ x.2.1 ∧ x.2.1 < ((x.1.2.2.1.length : Nat) : Int) then
     ((x.1.2.2.1)[(x.2.1).toNat]?).bind fun y8 =>
     let v9 := (x.1.2.2.1.set (x.2.1).toNat (0 : Int))
     if (leI r1.1.1 (8 : Int)) then
      if 0 ≤ x.2.1 ∧ x.2.1 < ((v9.length : Nat) : Int) then
       ((v9)[(x.2.1).toNat]?).bind fun y10 =>
       let v11 := (v9.set (x.2.1).toNat r1.1.1)
       some ((), ((x.1.1, (x.1.2.1, (v11, (x.1.2.2.2.1, (x.1.2.2.2.2.1, (x.1.2.2.2.2.2.1, (x.1.2.2.2.2.2.2.1, (x.1.2.2.2.2.2.2.2.1, (x.1.2.2.2.2.2.2.2.2.1, ()))))))))), ()))
      else none
     else
      some ((), ((x.1.1, (x.1.2.1, (v9, (x.1.2.2.2.1, (x.1.2.2.2.2.1, (x.1.2.2.2.2.2.1, (x.1.2.2.2.2.2.2.1, (x.1.2.2.2.2.2.2.2.1, (x.1.2.2.2.2.2.2.2.2.1, ()))))))))), ()))
    else none
   else
    if (x.2.1 == (6 : Int)) then
     if x.1.2.2.2.2.2.1 = true then
      let v12 := ((r1.1.1).tmod (4 : Int))
      some ((), ((x.1.1, (x.1.2.1, (x.1.2.2.1, (x.1.2.2.2.1, (x.1.2.2.2.2.1, ((ltI v12 (2 : Int)), (x.1.2.2.2.2.2.2.1, (x.1.2.2.2.2.2.2.2.1, (x.1.2.2.2.2.2.2.2.2.1, ()))))))))), ()))
     else
      some ((), ((x.1.1, (x.1.2.1, (x.1.2.2.1, (x.1.2.2.2.1, (x.1.2.2.2.2.1, (false, (x.1.2.2.2.2.2.2.1, (x.1.2.2.2.2.2.2.2.1, (x.1.2.2.2.2.2.2.2.2.1, ()))))))))), ()))
    else
     if (x.2.1 == (8 : Int)) then
      some ((), (x.1, ()))
     else
      if 0 ≤ x.2.1 ∧ x.2.1 < ((x.1.2.2.1.length : Nat) : Int) then
       ((x.1.2.2.1)[(x.2.1).toNat]?).bind fun y13 =>
       let v14 := (x.1.2.2.1.set (x.2.1).toNat r1.1.1)
       some ((), ((x.1.1, (x.1.2.1, (v14, (x.1.2.2.2.1, (x.1.2.2.2.2.1, (x.1.2.2.2.2.2.1, (x.1.2.2.2.2.2.2.1, (x.1.2.2.2.2.2.2.2.1, (x.1.2.2.2.2.2.2.2.2.1, ()))))))))), ()))
      else none
abbrev C_l : Con := ⟨P_l, R_l, F_l, false⟩
abbrev G_l : Env := [(274, C_k)]
theorem g_l : Qe Tryz.prog G_l := (Qa s_k Qc)
theorem r_l (x) : Qf T G_l [] Tryz.f227 C_l.ps C_l.rs x = C_l.F x := by kernel_rfl
theorem s_l : Qb Tryz.prog 227 C_l := fnC (L := []) hT g_l Tryz.f227 okP r_l
abbrev P_da : List PK := [.box [.own 2 YI, .dat YI, .own 2 YI, .dat .bool, .dat .bool, .dat .bool, .dat YI, .dat Y24, .own 2 YI] [.own 2 YI, .dat YI, .own 2 YI, .dat .bool, .dat .bool, .dat .bool, .dat YI, .dat Y24, .own 2 YI], .val YI, .val YI]
abbrev R_da : List VK := [.s (.dat YI)]
def F_da (x : denP P_da) : Option (denV R_da × denQ P_da) :=
 (F_k (x.2.2.1, ())).bind fun r1 =>
 if (x.2.1 == (0 : Int)) then
  let v2 := ((x.1.2.2.2.2.2.2.2.2.1.length : Nat) : Int)
  if (ltI v2 (40 : Int)) then
   if (x.1.2.2.2.2.2.2.2.2.1.length + [r1.1.1].length) * 8 ≤ 140737488355328 then
    let v3 := (x.1.2.2.2.2.2.2.2.2.1 ++ [r1.1.1])
    some (((-1 : Int), ()), ((x.1.1, (x.1.2.1, (x.1.2.2.1, (x.1.2.2.2.1, (x.1.2.2.2.2.1, (x.1.2.2.2.2.2.1, (x.1.2.2.2.2.2.2.1, (x.1.2.2.2.2.2.2.2.1, (v3, ()))))))))), ()))
   else none
  else
   some (((-1 : Int), ()), (x.1, ()))
 else
  if (x.2.1 == (3 : Int)) then
   if 0 ≤ (9 : Int) ∧ (9 : Int) < ((x.1.2.2.1.length : Nat) : Int) then
    ((x.1.2.2.1)[((9 : Int)).toNat]?).bind fun y4 =>
    let v5 := (x.1.2.2.1.set ((9 : Int)).toNat r1.1.1)
    some (((-1 : Int), ()), ((x.1.1, (x.1.2.1, (v5, (x.1.2.2.2.1, (x.1.2.2.2.2.1, (x.1.2.2.2.2.2.1, (x.1.2.2.2.2.2.2.1, (x.1.2.2.2.2.2.2.2.1, (x.1.2.2.2.2.2.2.2.2.1, ()))))))))), ()))
   else none
  else
   if (x.2.1 == (4 : Int)) then
    (F_l (x.1, (6 : Int), r1.1.1, ())).bind fun r6 =>
    some (((-1 : Int), ()), (r6.2.1, ()))
   else
    if (x.2.1 == (5 : Int)) then
     some ((r1.1.1, ()), (x.1, ()))
    else
     some (((-1 : Int), ()), (x.1, ()))
abbrev C_da : Con := ⟨P_da, R_da, F_da, false⟩
abbrev G_da : Env := [(227, C_l), (274, C_k)]
theorem g_da : Qe Tryz.prog G_da := (Qa s_l (Qa s_k Qc))
theorem r_da (x) : Qf T G_da [] Tryz.f272 C_da.ps C_da.rs x = C_da.F x := by kernel_rfl
theorem s_da : Qb Tryz.prog 272 C_da := fnC (L := []) hT g_da Tryz.f272 okP r_da
abbrev P_db : List PK := [.box [.dat Y27, .own 2 YI, .dat YI, .own 2 YI, .dat YI, .own 2 YI, .dat .bool, .dat .bool, .dat .bool, .dat YI, .dat Y24, .own 2 YI, .dat YI] [.dat Y27, .own 2 YI, .dat YI, .own 2 YI, .dat YI, .own 2 YI, .dat .bool, .dat .bool, .dat .bool, .dat YI, .dat Y24, .own 2 YI, .dat YI], .val Y42]
abbrev R_db : List VK := [.s (.dat .bool)]
def F_db (x : denP P_db) : Option (denV R_db × denQ P_db) :=
 if 0 ≤ x.2.1.2.2.1 ∧ x.2.1.2.2.1 < ((x.1.2.2.2.1.length : Nat) : Int) then
  ((x.1.2.2.2.1)[(x.2.1.2.2.1).toNat]?).bind fun y1 =>
  (F_cx (x.2.1.2.2.2.1, ())).bind fun r2 =>
  (F_cw (y1, r2.1.1, ())).bind fun r3 =>
  if (x.2.1.1 == (15 : Int)) then
   (F_cu ((x.1.1, (x.1.2.1, (x.1.2.2.1, ((x.1.2.2.2.1, (x.1.2.2.2.2.1, (x.1.2.2.2.2.2.1, (x.1.2.2.2.2.2.2.1, (x.1.2.2.2.2.2.2.2.1, (x.1.2.2.2.2.2.2.2.2.1, (x.1.2.2.2.2.2.2.2.2.2.1, (x.1.2.2.2.2.2.2.2.2.2.2.1, (x.1.2.2.2.2.2.2.2.2.2.2.2.1, ()))))))))), (x.1.2.2.2.2.2.2.2.2.2.2.2.2.1, ()))))), r3.1.1, (2 : Int), ())).bind fun r4 =>
   if (r4.1.2.1 != (0 : Int)) then
    (F_co (x.1, (4 : Int), r3.1.1, ())).bind fun r5 =>
    some ((false, ()), (r5.2.1, ()))
   else
    if (x.2.1.1 == (14 : Int)) = true then
     if (leI (1000 : Int) r4.1.1) then
      let v6 := (IntKind.i64.wrap (r4.1.1 - (1000 : Int)))
      (F_cz ((x.1.2.2.2.1, (x.1.2.2.2.2.1, (x.1.2.2.2.2.2.1, (x.1.2.2.2.2.2.2.1, (x.1.2.2.2.2.2.2.2.1, (x.1.2.2.2.2.2.2.2.2.1, (x.1.2.2.2.2.2.2.2.2.2.1, (x.1.2.2.2.2.2.2.2.2.2.2.1, (x.1.2.2.2.2.2.2.2.2.2.2.2.1, ()))))))))), v6, ())).bind fun r7 =>
      (F_cy ((x.1.1, (x.1.2.1, (x.1.2.2.1, (r7.2.1.1, (r7.2.1.2.1, (r7.2.1.2.2.1, (r7.2.1.2.2.2.1, (r7.2.1.2.2.2.2.1, (r7.2.1.2.2.2.2.2.1, (r7.2.1.2.2.2.2.2.2.1, (r7.2.1.2.2.2.2.2.2.2.1, (r7.2.1.2.2.2.2.2.2.2.2.1, (x.1.2.2.2.2.2.2.2.2.2.2.2.2.1, ()))))))))))))), x.2.1.2.1, r7.1.1, ())).bind fun r8 =>
      some ((true, ()), (r8.2.1, ()))
     else
      if (x.2.1.1 == (14 : Int)) then
       if 0 ≤ r4.1.1 ∧ r4.1.1 < ((x.1.2.1.length : Nat) : Int) then
        ((x.1.2.1)[(r4.1.1).toNat]?).bind fun y9 =>
        (F_cy (x.1, x.2.1.2.1, y9, ())).bind fun r10 =>
        some ((true, ()), (r10.2.1, ()))
       else none
      else
       if (leI (1000 : Int) r4.1.1) then
        let v11 := (IntKind.i64.wrap (r4.1.1 - (1000 : Int)))
        if 0 ≤ x.2.1.2.1 ∧ x.2.1.2.1 < ((x.1.2.2.2.1.length : Nat) : Int) then
         ((x.1.2.2.2.1)[(x.2.1.2.1).toNat]?).bind fun y12 =>
         (F_da ((x.1.2.2.2.1, (x.1.2.2.2.2.1, (x.1.2.2.2.2.2.1, (x.1.2.2.2.2.2.2.1, (x.1.2.2.2.2.2.2.2.1, (x.1.2.2.2.2.2.2.2.2.1, (x.1.2.2.2.2.2.2.2.2.2.1, (x.1.2.2.2.2.2.2.2.2.2.2.1, (x.1.2.2.2.2.2.2.2.2.2.2.2.1, ()))))))))), v11, y12, ())).bind fun r13 =>
         some ((true, ()), ((x.1.1, (x.1.2.1, (r13.1.1, (r13.2.1.1, (r13.2.1.2.1, (r13.2.1.2.2.1, (r13.2.1.2.2.2.1, (r13.2.1.2.2.2.2.1, (r13.2.1.2.2.2.2.2.1, (r13.2.1.2.2.2.2.2.2.1, (r13.2.1.2.2.2.2.2.2.2.1, (r13.2.1.2.2.2.2.2.2.2.2.1, (x.1.2.2.2.2.2.2.2.2.2.2.2.2.1, ()))))))))))))), ()))
        else none
       else
        if 0 ≤ x.2.1.2.1 ∧ x.2.1.2.1 < ((x.1.2.2.2.1.length : Nat) : Int) then
         ((x.1.2.2.2.1)[(x.2.1.2.1).toNat]?).bind fun y14 =>
         if 0 ≤ r4.1.1 ∧ r4.1.1 < ((x.1.2.1.length : Nat) : Int) then
          ((x.1.2.1)[(r4.1.1).toNat]?).bind fun y15 =>
          let v16 := (x.1.2.1.set (r4.1.1).toNat y14)
          some ((true, ()), ((x.1.1, (v16, (x.1.2.2.1, (x.1.2.2.2.1, (x.1.2.2.2.2.1, (x.1.2.2.2.2.2.1, (x.1.2.2.2.2.2.2.1, (x.1.2.2.2.2.2.2.2.1, (x.1.2.2.2.2.2.2.2.2.1, (x.1.2.2.2.2.2.2.2.2.2.1, (x.1.2.2.2.2.2.2.2.2.2.2.1, (x.1.2.2.2.2.2.2.2.2.2.2.2.1, (x.1.2.2.2.2.2.2.2.2.2.2.2.2.1, ()))))))))))))), ()))
         else none
        else none
    else
     if (x.2.1.1 == (14 : Int)) then
      if 0 ≤ r4.1.1 ∧ r4.1.1 < ((x.1.2.1.length : Nat) : Int) then
       ((x.1.2.1)[(r4.1.1).toNat]?).bind fun y17 =>
       (F_cy (x.1, x.2.1.2.1, y17, ())).bind fun r18 =>
       some ((true, ()), (r18.2.1, ()))
      else none
     else
      if (leI (1000 : Int) r4.1.1) then
       let v19 := (IntKind.i64.wrap (r4.1.1 - (1000 : Int)))
       if 0 ≤ x.2.1.2.1 ∧ x.2.1.2.1 < ((x.1.2.2.2.1.length : Nat) : Int) then
        ((x.1.2.2.2.1)[(x.2.1.2.1).toNat]?).bind fun y20 =>
        (F_da ((x.1.2.2.2.1, (x.1.2.2.2.2.1, (x.1.2.2.2.2.2.1, (x.1.2.2.2.2.2.2.1, (x.1.2.2.2.2.2.2.2.1, (x.1.2.2.2.2.2.2.2.2.1, (x.1.2.2.2.2.2.2.2.2.2.1, (x.1.2.2.2.2.2.2.2.2.2.2.1, (x.1.2.2.2.2.2.2.2.2.2.2.2.1, ()))))))))), v19, y20, ())).bind fun r21 =>
        some ((true, ()), ((x.1.1, (x.1.2.1, (r21.1.1, (r21.2.1.1, (r21.2.1.2.1, (r21.2.1.2.2.1, (r21.2.1.2.2.2.1, (r21.2.1.2.2.2.2.1, (r21.2.1.2.2.2.2.2.1, (r21.2.1.2.2.2.2.2.2.1, (r21.2.1.2.2.2.2.2.2.2.1, (r21.2.1.2.2.2.2.2.2.2.2.1, (x.1.2.2.2.2.2.2.2.2.2.2.2.2.1, ()))))))))))))), ()))
       else none
      else
       if 0 ≤ x.2.1.2.1 ∧ x.2.1.2.1 < ((x.1.2.2.2.1.length : Nat) : Int) then
        ((x.1.2.2.2.1)[(x.2.1.2.1).toNat]?).bind fun y22 =>
        if 0 ≤ r4.1.1 ∧ r4.1.1 < ((x.1.2.1.length : Nat) : Int) then
         ((x.1.2.1)[(r4.1.1).toNat]?).bind fun y23 =>
         let v24 := (x.1.2.1.set (r4.1.1).toNat y22)
         some ((true, ()), ((x.1.1, (v24, (x.1.2.2.1, (x.1.2.2.2.1, (x.1.2.2.2.2.1, (x.1.2.2.2.2.2.1, (x.1.2.2.2.2.2.2.1, (x.1.2.2.2.2.2.2.2.1, (x.1.2.2.2.2.2.2.2.2.1, (x.1.2.2.2.2.2.2.2.2.2.1, (x.1.2.2.2.2.2.2.2.2.2.2.1, (x.1.2.2.2.2.2.2.2.2.2.2.2.1, (x.1.2.2.2.2.2.2.2.2.2.2.2.2.1, ()))))))))))))), ()))
        else none
       else none
  else
   (F_cu ((x.1.1, (x.1.2.1, (x.1.2.2.1, ((x.1.2.2.2.1, (x.1.2.2.2.2.1, (x.1.2.2.2.2.2.1, (x.1.2.2.2.2.2.2.1, (x.1.2.2.2.2.2.2.2.1, (x.1.2.2.2.2.2.2.2.2.1, (x.1.2.2.2.2.2.2.2.2.2.1, (x.1.2.2.2.2.2.2.2.2.2.2.1, (x.1.2.2.2.2.2.2.2.2.2.2.2.1, ()))))))))), (x.1.2.2.2.2.2.2.2.2.2.2.2.2.1, ()))))), r3.1.1, (1 : Int), ())).bind fun r25 =>
   if (r25.1.2.1 != (0 : Int)) then
    (F_co (x.1, (3 : Int), r3.1.1, ())).bind fun r26 =>
    some ((false, ()), (r26.2.1, ()))
   else
    if (x.2.1.1 == (14 : Int)) = true then
     if (leI (1000 : Int) r25.1.1) then
      let v27 := (IntKind.i64.wrap (r25.1.1 - (1000 : Int)))
      (F_cz ((x.1.2.2.2.1, (x.1.2.2.2.2.1, (x.1.2.2.2.2.2.1, (x.1.2.2.2.2.2.2.1, (x.1.2.2.2.2.2.2.2.1, (x.1.2.2.2.2.2.2.2.2.1, (x.1.2.2.2.2.2.2.2.2.2.1, (x.1.2.2.2.2.2.2.2.2.2.2.1, (x.1.2.2.2.2.2.2.2.2.2.2.2.1, ()))))))))), v27, ())).bind fun r28 =>
      (F_cy ((x.1.1, (x.1.2.1, (x.1.2.2.1, (r28.2.1.1, (r28.2.1.2.1, (r28.2.1.2.2.1, (r28.2.1.2.2.2.1, (r28.2.1.2.2.2.2.1, (r28.2.1.2.2.2.2.2.1, (r28.2.1.2.2.2.2.2.2.1, (r28.2.1.2.2.2.2.2.2.2.1, (r28.2.1.2.2.2.2.2.2.2.2.1, (x.1.2.2.2.2.2.2.2.2.2.2.2.2.1, ()))))))))))))), x.2.1.2.1, r28.1.1, ())).bind fun r29 =>
      some ((true, ()), (r29.2.1, ()))
     else
      if (x.2.1.1 == (14 : Int)) then
       if 0 ≤ r25.1.1 ∧ r25.1.1 < ((x.1.2.1.length : Nat) : Int) then
        ((x.1.2.1)[(r25.1.1).toNat]?).bind fun y30 =>
        (F_cy (x.1, x.2.1.2.1, y30, ())).bind fun r31 =>
        some ((true, ()), (r31.2.1, ()))
       else none
      else
       if (leI (1000 : Int) r25.1.1) then
        let v32 := (IntKind.i64.wrap (r25.1.1 - (1000 : Int)))
        if 0 ≤ x.2.1.2.1 ∧ x.2.1.2.1 < ((x.1.2.2.2.1.length : Nat) : Int) then
         ((x.1.2.2.2.1)[(x.2.1.2.1).toNat]?).bind fun y33 =>
         (F_da ((x.1.2.2.2.1, (x.1.2.2.2.2.1, (x.1.2.2.2.2.2.1, (x.1.2.2.2.2.2.2.1, (x.1.2.2.2.2.2.2.2.1, (x.1.2.2.2.2.2.2.2.2.1, (x.1.2.2.2.2.2.2.2.2.2.1, (x.1.2.2.2.2.2.2.2.2.2.2.1, (x.1.2.2.2.2.2.2.2.2.2.2.2.1, ()))))))))), v32, y33, ())).bind fun r34 =>
         some ((true, ()), ((x.1.1, (x.1.2.1, (r34.1.1, (r34.2.1.1, (r34.2.1.2.1, (r34.2.1.2.2.1, (r34.2.1.2.2.2.1, (r34.2.1.2.2.2.2.1, (r34.2.1.2.2.2.2.2.1, (r34.2.1.2.2.2.2.2.2.1, (r34.2.1.2.2.2.2.2.2.2.1, (r34.2.1.2.2.2.2.2.2.2.2.1, (x.1.2.2.2.2.2.2.2.2.2.2.2.2.1, ()))))))))))))), ()))
        else none
       else
        if 0 ≤ x.2.1.2.1 ∧ x.2.1.2.1 < ((x.1.2.2.2.1.length : Nat) : Int) then
         ((x.1.2.2.2.1)[(x.2.1.2.1).toNat]?).bind fun y35 =>
         if 0 ≤ r25.1.1 ∧ r25.1.1 < ((x.1.2.1.length : Nat) : Int) then
          ((x.1.2.1)[(r25.1.1).toNat]?).bind fun y36 =>
          let v37 := (x.1.2.1.set (r25.1.1).toNat y35)
          some ((true, ()), ((x.1.1, (v37, (x.1.2.2.1, (x.1.2.2.2.1, (x.1.2.2.2.2.1, (x.1.2.2.2.2.2.1, (x.1.2.2.2.2.2.2.1, (x.1.2.2.2.2.2.2.2.1, (x.1.2.2.2.2.2.2.2.2.1, (x.1.2.2.2.2.2.2.2.2.2.1, (x.1.2.2.2.2.2.2.2.2.2.2.1, (x.1.2.2.2.2.2.2.2.2.2.2.2.1, (x.1.2.2.2.2.2.2.2.2.2.2.2.2.1, ()))))))))))))), ()))
         else none
        else none
    else
     if (x.2.1.1 == (14 : Int)) then
      if 0 ≤ r25.1.1 ∧ r25.1.1 < ((x.1.2.1.length : Nat) : Int) then
       ((x.1.2.1)[(r25.1.1).toNat]?).bind fun y38 =>
       (F_cy (x.1, x.2.1.2.1, y38, ())).bind fun r39 =>
       some ((true, ()), (r39.2.1, ()))
      else none
     else
      if (leI (1000 : Int) r25.1.1) then
       let v40 := (IntKind.i64.wrap (r25.1.1 - (1000 : Int)))
       if 0 ≤ x.2.1.2.1 ∧ x.2.1.2.1 < ((x.1.2.2.2.1.length : Nat) : Int) then
        ((x.1.2.2.2.1)[(x.2.1.2.1).toNat]?).bind fun y41 =>
        (F_da ((x.1.2.2.2.1, (x.1.2.2.2.2.1, (x.1.2.2.2.2.2.1, (x.1.2.2.2.2.2.2.1, (x.1.2.2.2.2.2.2.2.1, (x.1.2.2.2.2.2.2.2.2.1, (x.1.2.2.2.2.2.2.2.2.2.1, (x.1.2.2.2.2.2.2.2.2.2.2.1, (x.1.2.2.2.2.2.2.2.2.2.2.2.1, ()))))))))), v40, y41, ())).bind fun r42 =>
        some ((true, ()), ((x.1.1, (x.1.2.1, (r42.1.1, (r42.2.1.1, (r42.2.1.2.1, (r42.2.1.2.2.1, (r42.2.1.2.2.2.1, (r42.2.1.2.2.2.2.1, (r42.2.1.2.2.2.2.2.1, (r42.2.1.2.2.2.2.2.2.1, (r42.2.1.2.2.2.2.2.2.2.1, (r42.2.1.2.2.2.2.2.2.2.2.1, (x.1.2.2.2.2.2.2.2.2.2.2.2.2.1, ()))))))))))))), ()))
       else none
      else
       if 0 ≤ x.2.1.2.1 ∧ x.2.1.2.1 < ((x.1.2.2.2.1.length : Nat) : Int) then
        ((x.1.2.2.2.1)[(x.2.1.2.1).toNat]?).bind fun y43 =>
        if 0 ≤ r25.1.1 ∧ r25.1.1 < ((x.1.2.1.length : Nat) : Int) then
         ((x.1.2.1)[(r25.1.1).toNat]?).bind fun y44 =>
         let v45 := (x.1.2.1.set (r25.1.1).toNat y43)
         some ((true, ()), ((x.1.1, (v45, (x.1.2.2.1, (x.1.2.2.2.1, (x.1.2.2.2.2.1, (x.1.2.2.2.2.2.1, (x.1.2.2.2.2.2.2.1, (x.1.2.2.2.2.2.2.2.1, (x.1.2.2.2.2.2.2.2.2.1, (x.1.2.2.2.2.2.2.2.2.2.1, (x.1.2.2.2.2.2.2.2.2.2.2.1, (x.1.2.2.2.2.2.2.2.2.2.2.2.1, (x.1.2.2.2.2.2.2.2.2.2.2.2.2.1, ()))))))))))))), ()))
        else none
       else none
 else none
abbrev C_db : Con := ⟨P_db, R_db, F_db, false⟩
abbrev G_db : Env := [(65, C_cu), (147, C_co), (221, C_cw), (222, C_cx), (223, C_cy), (271, C_cz), (272, C_da)]
theorem g_db : Qe Tryz.prog G_db := (Qa s_cu (Qa s_co (Qa s_cw (Qa s_cx (Qa s_cy (Qa s_cz (Qa s_da Qc)))))))
theorem r_db (x) : Qf T G_db [] Tryz.f224 C_db.ps C_db.rs x = C_db.F x := by kernel_rfl
theorem s_db : Qb Tryz.prog 224 C_db := fnC (L := []) hT g_db Tryz.f224 okP r_db
abbrev P_dc : List PK := [.val YI]
abbrev R_dc : List VK := [.s (.dat YI)]
def F_dc (x : denP P_dc) : Option (denV R_dc × denQ P_dc) :=
 let v1 := (IntKind.u32.wrap x.1)
 let v2 := (IntKind.i32.wrap v1)
 let v3 := (IntKind.i64.wrap v2)
 some ((v3, ()), ())
abbrev C_dc : Con := ⟨P_dc, R_dc, F_dc, false⟩
abbrev G_dc : Env := []
theorem g_dc : Qe Tryz.prog G_dc := Qc
theorem r_dc (x) : Qf T G_dc [] Tryz.f273 C_dc.ps C_dc.rs x = C_dc.F x := by kernel_rfl
theorem s_dc : Qb Tryz.prog 273 C_dc := fnC (L := []) hT g_dc Tryz.f273 okP r_dc
abbrev P_dd : List PK := [.ptr Y25, .val Y42]
abbrev R_dd : List VK := [.s (.dat .bool)]
def F_dd (x : denP P_dd) : Option (denV R_dd × denQ P_dd) :=
 if 0 ≤ x.2.1.2.1 then
  ((x.1.1)[(x.2.1.2.1).toNat]?).bind fun y1 =>
  if 0 ≤ x.2.1.2.2.1 then
   ((x.1.1)[(x.2.1.2.2.1).toNat]?).bind fun y2 =>
   if (x.2.1.1 == (16 : Int)) then
    some (((y1 == y2), ()), ())
   else
    if (x.2.1.1 == (17 : Int)) then
     some (((y1 != y2), ()), ())
    else
     (F_dc (y1, ())).bind fun r3 =>
     (F_dc (y2, ())).bind fun r4 =>
     some (((ltI r3.1.1 r4.1.1), ()), ())
  else none
 else none
abbrev C_dd : Con := ⟨P_dd, R_dd, F_dd, false⟩
abbrev G_dd : Env := [(273, C_dc)]
theorem g_dd : Qe Tryz.prog G_dd := (Qa s_dc Qc)
theorem r_dd (x) : Qf T G_dd [] Tryz.f225 C_dd.ps C_dd.rs x = C_dd.F x := by kernel_rfl
theorem s_dd : Qb Tryz.prog 225 C_dd := fnC (L := []) hT g_dd Tryz.f225 okP r_dd
abbrev P_de : List PK := [.ptr Y25, .val YI]
abbrev R_de : List VK := [.s (.dat YI)]
def F_de (x : denP P_de) : Option (denV R_de × denQ P_de) :=
 if (x.2.1 == (6 : Int)) then
  (F_cl (x.1, ())).bind fun r1 =>
  some ((r1.1.1, ()), ())
 else
  if (x.2.1 == (8 : Int)) then
   some ((x.1.2.2.2.2.2.2.1, ()), ())
  else
   if 0 ≤ x.2.1 then
    ((x.1.2.2.1)[(x.2.1).toNat]?).bind fun y2 =>
    some ((y2, ()), ())
   else none
abbrev C_de : Con := ⟨P_de, R_de, F_de, false⟩
abbrev G_de : Env := [(148, C_cl)]
theorem g_de : Qe Tryz.prog G_de := (Qa s_cl Qc)
theorem r_de (x) : Qf T G_de [] Tryz.f226 C_de.ps C_de.rs x = C_de.F x := by kernel_rfl
theorem s_de : Qb Tryz.prog 226 C_de := fnC (L := []) hT g_de Tryz.f226 okP r_de
abbrev P_df : List PK := [.box [.own 2 YI, .dat YI, .own 2 YI, .dat .bool, .dat .bool, .dat .bool, .dat YI, .dat Y24, .own 2 YI] [.own 2 YI, .dat YI, .own 2 YI, .dat .bool, .dat .bool, .dat .bool, .dat YI, .dat Y24, .own 2 YI]]
abbrev R_df : List VK := []
def F_df (x : denP P_df) : Option (denV R_df × denQ P_df) :=
 if 0 ≤ (2 : Int) ∧ (2 : Int) < ((x.1.2.2.1.length : Nat) : Int) then
  ((x.1.2.2.1)[((2 : Int)).toNat]?).bind fun y1 =>
  if 0 ≤ (0 : Int) ∧ (0 : Int) < ((x.1.2.2.1.length : Nat) : Int) then
   ((x.1.2.2.1)[((0 : Int)).toNat]?).bind fun y2 =>
   let v3 := (IntKind.i64.wrap ((y2).tdiv (2 : Int)))
   let v4 := (IntKind.i64.wrap ((2 : Int) + v3))
   if 0 ≤ (0 : Int) ∧ (0 : Int) < ((x.1.2.2.1.length : Nat) : Int) then
    ((x.1.2.2.1)[((0 : Int)).toNat]?).bind fun y5 =>
    let v6 := (x.1.2.2.1.set ((0 : Int)).toNat v4)
    some ((), ((x.1.1, (y1, (v6, (x.1.2.2.2.1, (x.1.2.2.2.2.1, (x.1.2.2.2.2.2.1, (x.1.2.2.2.2.2.2.1, (x.1.2.2.2.2.2.2.2.1, (x.1.2.2.2.2.2.2.2.2.1, ()))))))))), ()))
   else none
  else none
 else none
abbrev C_df : Con := ⟨P_df, R_df, F_df, false⟩
abbrev G_df : Env := []
theorem g_df : Qe Tryz.prog G_df := Qc
theorem r_df (x) : Qf T G_df [] Tryz.f228 C_df.ps C_df.rs x = C_df.F x := by kernel_rfl
theorem s_df : Qb Tryz.prog 228 C_df := fnC (L := []) hT g_df Tryz.f228 okP r_df
abbrev P_dg : List PK := [.val YI, .val YI]
abbrev R_dg : List VK := [.s (.dat YI)]
def F_dg (x : denP P_dg) : Option (denV R_dg × denQ P_dg) :=
 let v1 := (IntKind.u32.wrap x.1)
 let v2 := (IntKind.u32.wrap x.2.1)
 let v3 := (IntKind.u32.wrap (v1 * v2))
 let v4 := (IntKind.i64.wrap v3)
 some ((v4, ()), ())
abbrev C_dg : Con := ⟨P_dg, R_dg, F_dg, false⟩
abbrev G_dg : Env := []
theorem g_dg : Qe Tryz.prog G_dg := Qc
theorem r_dg (x) : Qf T G_dg [] Tryz.f275 C_dg.ps C_dg.rs x = C_dg.F x := by kernel_rfl
theorem s_dg : Qb Tryz.prog 275 C_dg := fnC (L := []) hT g_dg Tryz.f275 okP r_dg
abbrev P_dh : List PK := [.val YI, .val YI]
abbrev R_dh : List VK := [.s (.dat YI)]
def F_dh (x : denP P_dh) : Option (denV R_dh × denQ P_dh) :=
 (F_k (x.2.1, ())).bind fun r1 =>
 if (r1.1.1 == (0 : Int)) then
  some (((4294967295 : Int), ()), ())
 else
  (F_dc (x.1, ())).bind fun r2 =>
  (F_dc (x.2.1, ())).bind fun r3 =>
  if r3.1.1 = 0 then none else
  let v4 := (IntKind.i64.wrap ((r2.1.1).tdiv r3.1.1))
  (F_k (v4, ())).bind fun r5 =>
  some ((r5.1.1, ()), ())
abbrev C_dh : Con := ⟨P_dh, R_dh, F_dh, false⟩
abbrev G_dh : Env := [(273, C_dc), (274, C_k)]
theorem g_dh : Qe Tryz.prog G_dh := (Qa s_dc (Qa s_k Qc))
theorem r_dh (x) : Qf T G_dh [] Tryz.f276 C_dh.ps C_dh.rs x = C_dh.F x := by kernel_rfl
theorem s_dh : Qb Tryz.prog 276 C_dh := fnC (L := []) hT g_dh Tryz.f276 okP r_dh
abbrev P_di : List PK := [.val YI, .val YI]
abbrev R_di : List VK := [.s (.dat YI)]
def F_di (x : denP P_di) : Option (denV R_di × denQ P_di) :=
 (F_k (x.2.1, ())).bind fun r1 =>
 if (r1.1.1 == (0 : Int)) then
  (F_k (x.1, ())).bind fun r2 =>
  some ((r2.1.1, ()), ())
 else
  (F_dc (x.1, ())).bind fun r3 =>
  (F_dc (x.2.1, ())).bind fun r4 =>
  if r4.1.1 = 0 then none else
  let v5 := ((r3.1.1).tmod r4.1.1)
  (F_k (v5, ())).bind fun r6 =>
  some ((r6.1.1, ()), ())
abbrev C_di : Con := ⟨P_di, R_di, F_di, false⟩
abbrev G_di : Env := [(273, C_dc), (274, C_k)]
theorem g_di : Qe Tryz.prog G_di := (Qa s_dc (Qa s_k Qc))
theorem r_di (x) : Qf T G_di [] Tryz.f277 C_di.ps C_di.rs x = C_di.F x := by kernel_rfl
theorem s_di : Qb Tryz.prog 277 C_di := fnC (L := []) hT g_di Tryz.f277 okP r_di
abbrev P_dj : List PK := [.val YI, .val YI, .val YI]
abbrev R_dj : List VK := [.s (.dat Y40)]
def F_dj (x : denP P_dj) : Option (denV R_dj × denQ P_dj) :=
 if (x.1 == (1 : Int)) then
  let v1 := (IntKind.u32.wrap x.2.1)
  let v2 := (IntKind.u32.wrap x.2.2.1)
  let v3 := (iand .u32 v1 v2)
  let v4 := (IntKind.i64.wrap v3)
  some ((((0 : Int), (v4, ())), ()), ())
 else
  if (x.1 == (2 : Int)) then
   let v5 := (IntKind.u32.wrap x.2.1)
   let v6 := (IntKind.u32.wrap x.2.2.1)
   let v7 := (ior .u32 v5 v6)
   let v8 := (IntKind.i64.wrap v7)
   some ((((0 : Int), (v8, ())), ()), ())
  else
   if (x.1 == (3 : Int)) then
    let v9 := (IntKind.u32.wrap x.2.1)
    let v10 := (IntKind.u32.wrap x.2.2.1)
    let v11 := (ixor .u32 v9 v10)
    let v12 := (IntKind.i64.wrap v11)
    some ((((0 : Int), (v12, ())), ()), ())
   else
    some ((((3 : Int), ((0 : Int), ())), ()), ())
abbrev C_dj : Con := ⟨P_dj, R_dj, F_dj, false⟩
abbrev G_dj : Env := []
theorem g_dj : Qe Tryz.prog G_dj := Qc
theorem r_dj (x) : Qf T G_dj [] Tryz.f278 C_dj.ps C_dj.rs x = C_dj.F x := by kernel_rfl
theorem s_dj : Qb Tryz.prog 278 C_dj := fnC (L := []) hT g_dj Tryz.f278 okP r_dj
abbrev P_dk : List PK := [.val YI, .val YI, .val .bool]
abbrev R_dk : List VK := [.s (.dat YI)]
def F_dk (x : denP P_dk) : Option (denV R_dk × denQ P_dk) :=
 let v1 := (IntKind.u32.wrap x.2.1)
 let v2 := ((v1).tmod (32 : Int))
 let v3 := (IntKind.u64.wrap v2)
 if x.2.2.1 then
  let v4 := (IntKind.u32.wrap x.1)
  if v3 < 0 then none else
  let v5 := (IntKind.u32.wrap (v4 * 2 ^ (min (v3).toNat 32)))
  let v6 := (IntKind.i64.wrap v5)
  some ((v6, ()), ())
 else
  let v7 := (IntKind.u32.wrap x.1)
  if v3 < 0 then none else
  let v8 := ((v7).fdiv (2 ^ (min (v3).toNat 32)))
  let v9 := (IntKind.i64.wrap v8)
  some ((v9, ()), ())
abbrev C_dk : Con := ⟨P_dk, R_dk, F_dk, false⟩
abbrev G_dk : Env := []
theorem g_dk : Qe Tryz.prog G_dk := Qc
theorem r_dk (x) : Qf T G_dk [] Tryz.f279 C_dk.ps C_dk.rs x = C_dk.F x := by kernel_rfl
theorem s_dk : Qb Tryz.prog 279 C_dk := fnC (L := []) hT g_dk Tryz.f279 okP r_dk
abbrev P_dl : List PK := [.val YI, .val YI, .val YI]
abbrev R_dl : List VK := [.s (.dat YI)]
def F_dl (x : denP P_dl) : Option (denV R_dl × denQ P_dl) :=
 if (x.1 == (1 : Int)) then
  (F_cw (x.2.1, x.2.2.1, ())).bind fun r1 =>
  some ((r1.1.1, ()), ())
 else
  if (x.1 == (2 : Int)) then
   let v2 := (IntKind.u32.wrap x.2.1)
   let v3 := (IntKind.u32.wrap x.2.2.1)
   let v4 := (IntKind.u32.wrap (v2 - v3))
   let v5 := (IntKind.i64.wrap v4)
   some ((v5, ()), ())
  else
   if (x.1 == (3 : Int)) then
    (F_dg (x.2.1, x.2.2.1, ())).bind fun r6 =>
    some ((r6.1.1, ()), ())
   else
    if (x.1 == (4 : Int)) then
     (F_dh (x.2.1, x.2.2.1, ())).bind fun r7 =>
     some ((r7.1.1, ()), ())
    else
     if (x.1 == (5 : Int)) then
      (F_di (x.2.1, x.2.2.1, ())).bind fun r8 =>
      some ((r8.1.1, ()), ())
     else
      if (x.1 == (6 : Int)) then
       let v9 := (IntKind.i64.wrap (x.1 - (6 : Int)))
       let v10 := (IntKind.i64.wrap (v9 + (1 : Int)))
       (F_dj (v10, x.2.1, x.2.2.1, ())).bind fun r11 =>
       some ((r11.1.1.2.1, ()), ())
      else
       if (x.1 == (7 : Int)) then
        let v12 := (IntKind.i64.wrap (x.1 - (6 : Int)))
        let v13 := (IntKind.i64.wrap (v12 + (1 : Int)))
        (F_dj (v13, x.2.1, x.2.2.1, ())).bind fun r14 =>
        some ((r14.1.1.2.1, ()), ())
       else
        if (x.1 == (8 : Int)) then
         let v15 := (IntKind.i64.wrap (x.1 - (6 : Int)))
         let v16 := (IntKind.i64.wrap (v15 + (1 : Int)))
         (F_dj (v16, x.2.1, x.2.2.1, ())).bind fun r17 =>
         some ((r17.1.1.2.1, ()), ())
        else
         if (x.1 == (9 : Int)) then
          (F_dk (x.2.1, x.2.2.1, true, ())).bind fun r18 =>
          some ((r18.1.1, ()), ())
         else
          if (x.1 == (10 : Int)) then
           (F_dk (x.2.1, x.2.2.1, false, ())).bind fun r19 =>
           some ((r19.1.1, ()), ())
          else
           (F_dc (x.2.1, ())).bind fun r20 =>
           (F_dc (x.2.2.1, ())).bind fun r21 =>
           if (ltI r20.1.1 r21.1.1) then
            some (((1 : Int), ()), ())
           else
            some (((0 : Int), ()), ())
abbrev C_dl : Con := ⟨P_dl, R_dl, F_dl, false⟩
abbrev G_dl : Env := [(221, C_cw), (273, C_dc), (275, C_dg), (276, C_dh), (277, C_di), (278, C_dj), (279, C_dk)]
theorem g_dl : Qe Tryz.prog G_dl := (Qa s_cw (Qa s_dc (Qa s_dg (Qa s_dh (Qa s_di (Qa s_dj (Qa s_dk Qc)))))))
theorem r_dl (x) : Qf T G_dl [] Tryz.f229 C_dl.ps C_dl.rs x = C_dl.F x := by kernel_rfl
theorem s_dl : Qb Tryz.prog 229 C_dl := fnC (L := []) hT g_dl Tryz.f229 okP r_dl
abbrev P_dm : List PK := [.box [.dat Y27, .own 2 YI, .dat YI, .own 2 YI, .dat YI, .own 2 YI, .dat .bool, .dat .bool, .dat .bool, .dat YI, .dat Y24, .own 2 YI, .dat YI] [.dat Y27, .own 2 YI, .dat YI, .own 2 YI, .dat YI, .own 2 YI, .dat .bool, .dat .bool, .dat .bool, .dat YI, .dat Y24, .own 2 YI, .dat YI], .val Y42]
abbrev R_dm : List VK := [.s (.dat .bool)]
def F_dm (x : denP P_dm) : Option (denV R_dm × denQ P_dm) :=
 (F_cw (x.1.2.2.2.2.1, (1 : Int), ())).bind fun r1 =>
 (F_cx (x.2.1.2.2.2.1, ())).bind fun r2 =>
 (F_cw (x.1.2.2.2.2.1, r2.1.1, ())).bind fun r3 =>
 if (x.2.1.1 == (12 : Int)) then
  if 0 ≤ x.2.1.2.2.1 ∧ x.2.1.2.2.1 < ((x.1.2.2.2.1.length : Nat) : Int) then
   ((x.1.2.2.2.1)[(x.2.1.2.2.1).toNat]?).bind fun y4 =>
   (F_cx (x.2.1.2.2.2.1, ())).bind fun r5 =>
   (F_cw (y4, r5.1.1, ())).bind fun r6 =>
   (F_cy (x.1, x.2.1.2.1, r6.1.1, ())).bind fun r7 =>
   some ((true, ()), ((r7.2.1.1, (r7.2.1.2.1, (r7.2.1.2.2.1, (r7.2.1.2.2.2.1, (r1.1.1, (r7.2.1.2.2.2.2.2.1, (r7.2.1.2.2.2.2.2.2.1, (r7.2.1.2.2.2.2.2.2.2.1, (r7.2.1.2.2.2.2.2.2.2.2.1, (r7.2.1.2.2.2.2.2.2.2.2.2.1, (r7.2.1.2.2.2.2.2.2.2.2.2.2.1, (r7.2.1.2.2.2.2.2.2.2.2.2.2.2.1, (r7.2.1.2.2.2.2.2.2.2.2.2.2.2.2.1, ()))))))))))))), ()))
  else none
 else
  if (x.2.1.1 == (13 : Int)) then
   let v8 := (IntKind.i64.wrap (x.2.1.2.2.2.1 * (65536 : Int)))
   (F_cy (x.1, x.2.1.2.1, v8, ())).bind fun r9 =>
   some ((true, ()), ((r9.2.1.1, (r9.2.1.2.1, (r9.2.1.2.2.1, (r9.2.1.2.2.2.1, (r1.1.1, (r9.2.1.2.2.2.2.2.1, (r9.2.1.2.2.2.2.2.2.1, (r9.2.1.2.2.2.2.2.2.2.1, (r9.2.1.2.2.2.2.2.2.2.2.1, (r9.2.1.2.2.2.2.2.2.2.2.2.1, (r9.2.1.2.2.2.2.2.2.2.2.2.2.1, (r9.2.1.2.2.2.2.2.2.2.2.2.2.2.1, (r9.2.1.2.2.2.2.2.2.2.2.2.2.2.2.1, ()))))))))))))), ()))
  else
   if (x.2.1.1 == (14 : Int)) then
    (F_db (x.1, x.2.1, ())).bind fun r10 =>
    if (!r10.1.1) then
     some ((false, ()), (r10.2.1, ()))
    else
     some ((true, ()), ((r10.2.1.1, (r10.2.1.2.1, (r10.2.1.2.2.1, (r10.2.1.2.2.2.1, (r1.1.1, (r10.2.1.2.2.2.2.2.1, (r10.2.1.2.2.2.2.2.2.1, (r10.2.1.2.2.2.2.2.2.2.1, (r10.2.1.2.2.2.2.2.2.2.2.1, (r10.2.1.2.2.2.2.2.2.2.2.2.1, (r10.2.1.2.2.2.2.2.2.2.2.2.2.1, (r10.2.1.2.2.2.2.2.2.2.2.2.2.2.1, (r10.2.1.2.2.2.2.2.2.2.2.2.2.2.2.1, ()))))))))))))), ()))
   else
    if (x.2.1.1 == (15 : Int)) then
     (F_db (x.1, x.2.1, ())).bind fun r11 =>
     if (!r11.1.1) then
      some ((false, ()), (r11.2.1, ()))
     else
      some ((true, ()), ((r11.2.1.1, (r11.2.1.2.1, (r11.2.1.2.2.1, (r11.2.1.2.2.2.1, (r1.1.1, (r11.2.1.2.2.2.2.2.1, (r11.2.1.2.2.2.2.2.2.1, (r11.2.1.2.2.2.2.2.2.2.1, (r11.2.1.2.2.2.2.2.2.2.2.1, (r11.2.1.2.2.2.2.2.2.2.2.2.1, (r11.2.1.2.2.2.2.2.2.2.2.2.2.1, (r11.2.1.2.2.2.2.2.2.2.2.2.2.2.1, (r11.2.1.2.2.2.2.2.2.2.2.2.2.2.2.1, ()))))))))))))), ()))
    else
     if (x.2.1.1 == (16 : Int)) then
      (F_dd ((x.1.2.2.2.1, (x.1.2.2.2.2.1, (x.1.2.2.2.2.2.1, (x.1.2.2.2.2.2.2.1, (x.1.2.2.2.2.2.2.2.1, (x.1.2.2.2.2.2.2.2.2.1, (x.1.2.2.2.2.2.2.2.2.2.1, (x.1.2.2.2.2.2.2.2.2.2.2.1, (x.1.2.2.2.2.2.2.2.2.2.2.2.1, ()))))))))), x.2.1, ())).bind fun r12 =>
      if r12.1.1 then
       some ((true, ()), ((x.1.1, (x.1.2.1, (x.1.2.2.1, (x.1.2.2.2.1, (r3.1.1, (x.1.2.2.2.2.2.1, (x.1.2.2.2.2.2.2.1, (x.1.2.2.2.2.2.2.2.1, (x.1.2.2.2.2.2.2.2.2.1, (x.1.2.2.2.2.2.2.2.2.2.1, (x.1.2.2.2.2.2.2.2.2.2.2.1, (x.1.2.2.2.2.2.2.2.2.2.2.2.1, (x.1.2.2.2.2.2.2.2.2.2.2.2.2.1, ()))))))))))))), ()))
      else
       some ((true, ()), ((x.1.1, (x.1.2.1, (x.1.2.2.1, (x.1.2.2.2.1, (r1.1.1, (x.1.2.2.2.2.2.1, (x.1.2.2.2.2.2.2.1, (x.1.2.2.2.2.2.2.2.1, (x.1.2.2.2.2.2.2.2.2.1, (x.1.2.2.2.2.2.2.2.2.2.1, (x.1.2.2.2.2.2.2.2.2.2.2.1, (x.1.2.2.2.2.2.2.2.2.2.2.2.1, (x.1.2.2.2.2.2.2.2.2.2.2.2.2.1, ()))))))))))))), ()))
     else
      if (x.2.1.1 == (17 : Int)) then
       (F_dd ((x.1.2.2.2.1, (x.1.2.2.2.2.1, (x.1.2.2.2.2.2.1, (x.1.2.2.2.2.2.2.1, (x.1.2.2.2.2.2.2.2.1, (x.1.2.2.2.2.2.2.2.2.1, (x.1.2.2.2.2.2.2.2.2.2.1, (x.1.2.2.2.2.2.2.2.2.2.2.1, (x.1.2.2.2.2.2.2.2.2.2.2.2.1, ()))))))))), x.2.1, ())).bind fun r13 =>
       if r13.1.1 then
        some ((true, ()), ((x.1.1, (x.1.2.1, (x.1.2.2.1, (x.1.2.2.2.1, (r3.1.1, (x.1.2.2.2.2.2.1, (x.1.2.2.2.2.2.2.1, (x.1.2.2.2.2.2.2.2.1, (x.1.2.2.2.2.2.2.2.2.1, (x.1.2.2.2.2.2.2.2.2.2.1, (x.1.2.2.2.2.2.2.2.2.2.2.1, (x.1.2.2.2.2.2.2.2.2.2.2.2.1, (x.1.2.2.2.2.2.2.2.2.2.2.2.2.1, ()))))))))))))), ()))
       else
        some ((true, ()), ((x.1.1, (x.1.2.1, (x.1.2.2.1, (x.1.2.2.2.1, (r1.1.1, (x.1.2.2.2.2.2.1, (x.1.2.2.2.2.2.2.1, (x.1.2.2.2.2.2.2.2.1, (x.1.2.2.2.2.2.2.2.2.1, (x.1.2.2.2.2.2.2.2.2.2.1, (x.1.2.2.2.2.2.2.2.2.2.2.1, (x.1.2.2.2.2.2.2.2.2.2.2.2.1, (x.1.2.2.2.2.2.2.2.2.2.2.2.2.1, ()))))))))))))), ()))
      else
       if (x.2.1.1 == (18 : Int)) then
        (F_dd ((x.1.2.2.2.1, (x.1.2.2.2.2.1, (x.1.2.2.2.2.2.1, (x.1.2.2.2.2.2.2.1, (x.1.2.2.2.2.2.2.2.1, (x.1.2.2.2.2.2.2.2.2.1, (x.1.2.2.2.2.2.2.2.2.2.1, (x.1.2.2.2.2.2.2.2.2.2.2.1, (x.1.2.2.2.2.2.2.2.2.2.2.2.1, ()))))))))), x.2.1, ())).bind fun r14 =>
        if r14.1.1 then
         some ((true, ()), ((x.1.1, (x.1.2.1, (x.1.2.2.1, (x.1.2.2.2.1, (r3.1.1, (x.1.2.2.2.2.2.1, (x.1.2.2.2.2.2.2.1, (x.1.2.2.2.2.2.2.2.1, (x.1.2.2.2.2.2.2.2.2.1, (x.1.2.2.2.2.2.2.2.2.2.1, (x.1.2.2.2.2.2.2.2.2.2.2.1, (x.1.2.2.2.2.2.2.2.2.2.2.2.1, (x.1.2.2.2.2.2.2.2.2.2.2.2.2.1, ()))))))))))))), ()))
        else
         some ((true, ()), ((x.1.1, (x.1.2.1, (x.1.2.2.1, (x.1.2.2.2.1, (r1.1.1, (x.1.2.2.2.2.2.1, (x.1.2.2.2.2.2.2.1, (x.1.2.2.2.2.2.2.2.1, (x.1.2.2.2.2.2.2.2.2.1, (x.1.2.2.2.2.2.2.2.2.2.1, (x.1.2.2.2.2.2.2.2.2.2.2.1, (x.1.2.2.2.2.2.2.2.2.2.2.2.1, (x.1.2.2.2.2.2.2.2.2.2.2.2.2.1, ()))))))))))))), ()))
       else
        if (x.2.1.1 == (19 : Int)) then
         (F_cy (x.1, x.2.1.2.1, r1.1.1, ())).bind fun r15 =>
         some ((true, ()), ((r15.2.1.1, (r15.2.1.2.1, (r15.2.1.2.2.1, (r15.2.1.2.2.2.1, (r3.1.1, (r15.2.1.2.2.2.2.2.1, (r15.2.1.2.2.2.2.2.2.1, (r15.2.1.2.2.2.2.2.2.2.1, (r15.2.1.2.2.2.2.2.2.2.2.1, (r15.2.1.2.2.2.2.2.2.2.2.2.1, (r15.2.1.2.2.2.2.2.2.2.2.2.2.1, (r15.2.1.2.2.2.2.2.2.2.2.2.2.2.1, (r15.2.1.2.2.2.2.2.2.2.2.2.2.2.2.1, ()))))))))))))), ()))
        else
         if (x.2.1.1 == (20 : Int)) then
          if 0 ≤ x.2.1.2.2.1 ∧ x.2.1.2.2.1 < ((x.1.2.2.2.1.length : Nat) : Int) then
           ((x.1.2.2.2.1)[(x.2.1.2.2.1).toNat]?).bind fun y16 =>
           (F_cx (x.2.1.2.2.2.1, ())).bind fun r17 =>
           (F_cw (y16, r17.1.1, ())).bind fun r18 =>
           (F_cy (x.1, x.2.1.2.1, r1.1.1, ())).bind fun r19 =>
           some ((true, ()), ((r19.2.1.1, (r19.2.1.2.1, (r19.2.1.2.2.1, (r19.2.1.2.2.2.1, (r18.1.1, (r19.2.1.2.2.2.2.2.1, (r19.2.1.2.2.2.2.2.2.1, (r19.2.1.2.2.2.2.2.2.2.1, (r19.2.1.2.2.2.2.2.2.2.2.1, (r19.2.1.2.2.2.2.2.2.2.2.2.1, (r19.2.1.2.2.2.2.2.2.2.2.2.2.1, (r19.2.1.2.2.2.2.2.2.2.2.2.2.2.1, (r19.2.1.2.2.2.2.2.2.2.2.2.2.2.2.1, ()))))))))))))), ()))
          else none
         else
          if (x.2.1.1 == (21 : Int)) then
           (F_de ((x.1.2.2.2.1, (x.1.2.2.2.2.1, (x.1.2.2.2.2.2.1, (x.1.2.2.2.2.2.2.1, (x.1.2.2.2.2.2.2.2.1, (x.1.2.2.2.2.2.2.2.2.1, (x.1.2.2.2.2.2.2.2.2.2.1, (x.1.2.2.2.2.2.2.2.2.2.2.1, (x.1.2.2.2.2.2.2.2.2.2.2.2.1, ()))))))))), x.2.1.2.2.2.1, ())).bind fun r20 =>
           (F_cy (x.1, x.2.1.2.1, r20.1.1, ())).bind fun r21 =>
           some ((true, ()), ((r21.2.1.1, (r21.2.1.2.1, (r21.2.1.2.2.1, (r21.2.1.2.2.2.1, (r1.1.1, (r21.2.1.2.2.2.2.2.1, (r21.2.1.2.2.2.2.2.2.1, (r21.2.1.2.2.2.2.2.2.2.1, (r21.2.1.2.2.2.2.2.2.2.2.1, (r21.2.1.2.2.2.2.2.2.2.2.2.1, (r21.2.1.2.2.2.2.2.2.2.2.2.2.1, (r21.2.1.2.2.2.2.2.2.2.2.2.2.2.1, (r21.2.1.2.2.2.2.2.2.2.2.2.2.2.2.1, ()))))))))))))), ()))
          else
           if (x.2.1.1 == (22 : Int)) then
            if 0 ≤ x.2.1.2.2.1 ∧ x.2.1.2.2.1 < ((x.1.2.2.2.1.length : Nat) : Int) then
             ((x.1.2.2.2.1)[(x.2.1.2.2.1).toNat]?).bind fun y22 =>
             (F_l ((x.1.2.2.2.1, (x.1.2.2.2.2.1, (x.1.2.2.2.2.2.1, (x.1.2.2.2.2.2.2.1, (x.1.2.2.2.2.2.2.2.1, (x.1.2.2.2.2.2.2.2.2.1, (x.1.2.2.2.2.2.2.2.2.2.1, (x.1.2.2.2.2.2.2.2.2.2.2.1, (x.1.2.2.2.2.2.2.2.2.2.2.2.1, ()))))))))), x.2.1.2.2.2.1, y22, ())).bind fun r23 =>
             some ((true, ()), ((x.1.1, (x.1.2.1, (x.1.2.2.1, (r23.2.1.1, (r1.1.1, (r23.2.1.2.2.1, (r23.2.1.2.2.2.1, (r23.2.1.2.2.2.2.1, (r23.2.1.2.2.2.2.2.1, (r23.2.1.2.2.2.2.2.2.1, (r23.2.1.2.2.2.2.2.2.2.1, (r23.2.1.2.2.2.2.2.2.2.2.1, (x.1.2.2.2.2.2.2.2.2.2.2.2.2.1, ()))))))))))))), ()))
            else none
           else
            if (x.2.1.1 == (23 : Int)) then
             (F_co (x.1, (5 : Int), (0 : Int), ())).bind fun r24 =>
             some ((false, ()), (r24.2.1, ()))
            else
             if (x.2.1.1 == (24 : Int)) then
              (F_df ((x.1.2.2.2.1, (x.1.2.2.2.2.1, (x.1.2.2.2.2.2.1, (x.1.2.2.2.2.2.2.1, (x.1.2.2.2.2.2.2.2.1, (x.1.2.2.2.2.2.2.2.2.1, (x.1.2.2.2.2.2.2.2.2.2.1, (x.1.2.2.2.2.2.2.2.2.2.2.1, (x.1.2.2.2.2.2.2.2.2.2.2.2.1, ()))))))))), ())).bind fun r25 =>
              some ((true, ()), ((x.1.1, (x.1.2.1, (x.1.2.2.1, (r25.2.1.1, (r25.2.1.2.1, (r25.2.1.2.2.1, (r25.2.1.2.2.2.1, (r25.2.1.2.2.2.2.1, (r25.2.1.2.2.2.2.2.1, (r25.2.1.2.2.2.2.2.2.1, (r25.2.1.2.2.2.2.2.2.2.1, (r25.2.1.2.2.2.2.2.2.2.2.1, (x.1.2.2.2.2.2.2.2.2.2.2.2.2.1, ()))))))))))))), ()))
             else
              if (x.2.1.1 == (25 : Int)) then
               some ((true, ()), ((x.1.1, (x.1.2.1, (x.1.2.2.1, (x.1.2.2.2.1, (r1.1.1, (x.1.2.2.2.2.2.1, (x.1.2.2.2.2.2.2.1, (true, (x.1.2.2.2.2.2.2.2.2.1, (x.1.2.2.2.2.2.2.2.2.2.1, (x.1.2.2.2.2.2.2.2.2.2.2.1, (x.1.2.2.2.2.2.2.2.2.2.2.2.1, (x.1.2.2.2.2.2.2.2.2.2.2.2.2.1, ()))))))))))))), ()))
              else
               if (x.2.1.1 == (26 : Int)) then
                some ((true, ()), ((x.1.1, (x.1.2.1, (x.1.2.2.1, (x.1.2.2.2.1, (x.1.2.2.2.2.1, (x.1.2.2.2.2.2.1, (true, (x.1.2.2.2.2.2.2.2.1, (x.1.2.2.2.2.2.2.2.2.1, (x.1.2.2.2.2.2.2.2.2.2.1, (x.1.2.2.2.2.2.2.2.2.2.2.1, (x.1.2.2.2.2.2.2.2.2.2.2.2.1, (x.1.2.2.2.2.2.2.2.2.2.2.2.2.1, ()))))))))))))), ()))
               else
                if 0 ≤ x.2.1.2.2.1 ∧ x.2.1.2.2.1 < ((x.1.2.2.2.1.length : Nat) : Int) then
                 ((x.1.2.2.2.1)[(x.2.1.2.2.1).toNat]?).bind fun y26 =>
                 if 0 ≤ x.2.1.2.2.2.1 ∧ x.2.1.2.2.2.1 < ((x.1.2.2.2.1.length : Nat) : Int) then
                  ((x.1.2.2.2.1)[(x.2.1.2.2.2.1).toNat]?).bind fun y27 =>
                  (F_dl (x.2.1.1, y26, y27, ())).bind fun r28 =>
                  (F_cy (x.1, x.2.1.2.1, r28.1.1, ())).bind fun r29 =>
                  some ((true, ()), ((r29.2.1.1, (r29.2.1.2.1, (r29.2.1.2.2.1, (r29.2.1.2.2.2.1, (r1.1.1, (r29.2.1.2.2.2.2.2.1, (r29.2.1.2.2.2.2.2.2.1, (r29.2.1.2.2.2.2.2.2.2.1, (r29.2.1.2.2.2.2.2.2.2.2.1, (r29.2.1.2.2.2.2.2.2.2.2.2.1, (r29.2.1.2.2.2.2.2.2.2.2.2.2.1, (r29.2.1.2.2.2.2.2.2.2.2.2.2.2.1, (r29.2.1.2.2.2.2.2.2.2.2.2.2.2.2.1, ()))))))))))))), ()))
                 else none
                else none
abbrev C_dm : Con := ⟨P_dm, R_dm, F_dm, false⟩
abbrev G_dm : Env := [(147, C_co), (221, C_cw), (222, C_cx), (223, C_cy), (224, C_db), (225, C_dd), (226, C_de), (227, C_l), (228, C_df), (229, C_dl)]
theorem g_dm : Qe Tryz.prog G_dm := (Qa s_co (Qa s_cw (Qa s_cx (Qa s_cy (Qa s_db (Qa s_dd (Qa s_de (Qa s_l (Qa s_df (Qa s_dl Qc))))))))))
theorem r_dm (x) : Qf T G_dm [] Tryz.f150 C_dm.ps C_dm.rs x = C_dm.F x := by kernel_rfl
theorem s_dm : Qb Tryz.prog 150 C_dm := fnC (L := []) hT g_dm Tryz.f150 okP r_dm
abbrev P_dn : List PK := [.val YI, .val YI]
abbrev R_dn : List VK := [.s (.dat YI)]
def F_dn (x : denP P_dn) : Option (denV R_dn × denQ P_dn) :=
 if (ltI x.1 x.2.1) then
  some ((x.1, ()), ())
 else
  some ((x.2.1, ()), ())
abbrev C_dn : Con := ⟨P_dn, R_dn, F_dn, false⟩
abbrev G_dn : Env := []
theorem g_dn : Qe Tryz.prog G_dn := Qc
theorem r_dn (x) : Qf T G_dn [] Tryz.f151 C_dn.ps C_dn.rs x = C_dn.F x := by kernel_rfl
theorem s_dn : Qb Tryz.prog 151 C_dn := fnC (L := []) hT g_dn Tryz.f151 okP r_dn
abbrev P_do : List PK := [.box [.dat Y27, .own 2 YI, .dat YI, .own 2 YI, .dat YI, .own 2 YI, .dat .bool, .dat .bool, .dat .bool, .dat YI, .dat Y24, .own 2 YI, .dat YI] [.dat Y27, .own 2 YI, .dat YI, .own 2 YI, .dat YI, .own 2 YI, .dat .bool, .dat .bool, .dat .bool, .dat YI, .dat Y24, .own 2 YI, .dat YI]]
abbrev R_do : List VK := []
def F_do (x : denP P_do) : Option (denV R_do × denQ P_do) :=
 if x.1.2.2.2.2.2.2.1 then
  some ((), ((x.1.1, (x.1.2.1, ((-1 : Int), (x.1.2.2.2.1, (x.1.2.2.2.2.1, (x.1.2.2.2.2.2.1, (x.1.2.2.2.2.2.2.1, (x.1.2.2.2.2.2.2.2.1, (x.1.2.2.2.2.2.2.2.2.1, (x.1.2.2.2.2.2.2.2.2.2.1, (x.1.2.2.2.2.2.2.2.2.2.2.1, (x.1.2.2.2.2.2.2.2.2.2.2.2.1, ((-1 : Int), ()))))))))))))), ()))
 else
  (F_cm ((x.1.2.2.2.1, (x.1.2.2.2.2.1, (x.1.2.2.2.2.2.1, (x.1.2.2.2.2.2.2.1, (x.1.2.2.2.2.2.2.2.1, (x.1.2.2.2.2.2.2.2.2.1, (x.1.2.2.2.2.2.2.2.2.2.1, (x.1.2.2.2.2.2.2.2.2.2.2.1, (x.1.2.2.2.2.2.2.2.2.2.2.2.1, ()))))))))), ())).bind fun r1 =>
  if (leI (0 : Int) r1.1.1) then
   let v2 := (IntKind.i64.wrap ((16 : Int) + r1.1.1))
   (F_co ((x.1.1, (x.1.2.1, ((-1 : Int), (x.1.2.2.2.1, (x.1.2.2.2.2.1, (x.1.2.2.2.2.2.1, (x.1.2.2.2.2.2.2.1, (x.1.2.2.2.2.2.2.2.1, (x.1.2.2.2.2.2.2.2.2.1, (x.1.2.2.2.2.2.2.2.2.2.1, (x.1.2.2.2.2.2.2.2.2.2.2.1, (x.1.2.2.2.2.2.2.2.2.2.2.2.1, ((-1 : Int), ()))))))))))))), v2, (0 : Int), ())).bind fun r3 =>
   some ((), (r3.2.1, ()))
  else
   if x.1.2.2.2.2.2.2.2.1 then
    (F_cl ((x.1.2.2.2.1, (x.1.2.2.2.2.1, (x.1.2.2.2.2.2.1, (x.1.2.2.2.2.2.2.1, (x.1.2.2.2.2.2.2.2.1, (x.1.2.2.2.2.2.2.2.2.1, (x.1.2.2.2.2.2.2.2.2.2.1, (x.1.2.2.2.2.2.2.2.2.2.2.1, (x.1.2.2.2.2.2.2.2.2.2.2.2.1, ()))))))))), ())).bind fun r4 =>
    if 0 ≤ (7 : Int) ∧ (7 : Int) < ((x.1.2.2.2.2.2.1.length : Nat) : Int) then
     ((x.1.2.2.2.2.2.1)[((7 : Int)).toNat]?).bind fun y5 =>
     let v6 := (iand .i64 r4.1.1 y5)
     if (v6 == (0 : Int)) then
      some ((), ((x.1.1, (x.1.2.1, ((-1 : Int), (x.1.2.2.2.1, (x.1.2.2.2.2.1, (x.1.2.2.2.2.2.1, (x.1.2.2.2.2.2.2.1, (x.1.2.2.2.2.2.2.2.1, (x.1.2.2.2.2.2.2.2.2.1, (x.1.2.2.2.2.2.2.2.2.2.1, (x.1.2.2.2.2.2.2.2.2.2.2.1, (x.1.2.2.2.2.2.2.2.2.2.2.2.1, ((-1 : Int), ()))))))))))))), ()))
     else
      (F_cu ((x.1.1, (x.1.2.1, ((-1 : Int), ((x.1.2.2.2.1, (x.1.2.2.2.2.1, (x.1.2.2.2.2.2.1, (x.1.2.2.2.2.2.2.1, (false, (x.1.2.2.2.2.2.2.2.2.1, (x.1.2.2.2.2.2.2.2.2.2.1, (x.1.2.2.2.2.2.2.2.2.2.2.1, (x.1.2.2.2.2.2.2.2.2.2.2.2.1, ()))))))))), ((-1 : Int), ()))))), x.1.2.2.2.2.1, (4 : Int), ())).bind fun r7 =>
      if (r7.1.2.1 != (0 : Int)) then
       (F_co ((x.1.1, (x.1.2.1, ((-1 : Int), (x.1.2.2.2.1, (x.1.2.2.2.2.1, (x.1.2.2.2.2.2.1, (x.1.2.2.2.2.2.2.1, (false, (x.1.2.2.2.2.2.2.2.2.1, (x.1.2.2.2.2.2.2.2.2.2.1, (x.1.2.2.2.2.2.2.2.2.2.2.1, (x.1.2.2.2.2.2.2.2.2.2.2.2.1, ((-1 : Int), ()))))))))))))), (2 : Int), x.1.2.2.2.2.1, ())).bind fun r8 =>
       some ((), (r8.2.1, ()))
      else
       if 0 ≤ r7.1.1 ∧ r7.1.1 < ((x.1.2.1.length : Nat) : Int) then
        ((x.1.2.1)[(r7.1.1).toNat]?).bind fun y9 =>
        (F_cv (y9, ())).bind fun r10 =>
        if (!r10.1.2.1) then
         if 0 ≤ r7.1.1 ∧ r7.1.1 < ((x.1.2.1.length : Nat) : Int) then
          ((x.1.2.1)[(r7.1.1).toNat]?).bind fun y11 =>
          (F_co ((x.1.1, (x.1.2.1, ((-1 : Int), (x.1.2.2.2.1, (x.1.2.2.2.2.1, (x.1.2.2.2.2.2.1, (x.1.2.2.2.2.2.2.1, (false, (x.1.2.2.2.2.2.2.2.2.1, (x.1.2.2.2.2.2.2.2.2.2.1, (x.1.2.2.2.2.2.2.2.2.2.2.1, (x.1.2.2.2.2.2.2.2.2.2.2.2.1, ((-1 : Int), ()))))))))))))), (1 : Int), y11, ())).bind fun r12 =>
          some ((), (r12.2.1, ()))
         else none
        else
         (F_dm ((x.1.1, (x.1.2.1, ((-1 : Int), (x.1.2.2.2.1, (x.1.2.2.2.2.1, (x.1.2.2.2.2.2.1, (x.1.2.2.2.2.2.2.1, (false, (x.1.2.2.2.2.2.2.2.2.1, (x.1.2.2.2.2.2.2.2.2.2.1, (x.1.2.2.2.2.2.2.2.2.2.2.1, (x.1.2.2.2.2.2.2.2.2.2.2.2.1, ((-1 : Int), ()))))))))))))), r10.1.1, ())).bind fun r13 =>
         if r13.1.1 then
          let v14 := (IntKind.i64.wrap (r13.2.1.2.2.2.2.2.2.2.2.2.1 + (1 : Int)))
          (F_dn ((1000000000 : Int), v14, ())).bind fun r15 =>
          some ((), ((r13.2.1.1, (r13.2.1.2.1, (r13.2.1.2.2.1, (r13.2.1.2.2.2.1, (r13.2.1.2.2.2.2.1, (r13.2.1.2.2.2.2.2.1, (r13.2.1.2.2.2.2.2.2.1, (r13.2.1.2.2.2.2.2.2.2.1, (r13.2.1.2.2.2.2.2.2.2.2.1, (r15.1.1, (r13.2.1.2.2.2.2.2.2.2.2.2.2.1, (r13.2.1.2.2.2.2.2.2.2.2.2.2.2.1, (r13.2.1.2.2.2.2.2.2.2.2.2.2.2.2.1, ()))))))))))))), ()))
         else
          some ((), (r13.2.1, ()))
       else none
    else none
   else
    (F_cu ((x.1.1, (x.1.2.1, ((-1 : Int), ((x.1.2.2.2.1, (x.1.2.2.2.2.1, (x.1.2.2.2.2.2.1, (x.1.2.2.2.2.2.2.1, (x.1.2.2.2.2.2.2.2.1, (x.1.2.2.2.2.2.2.2.2.1, (x.1.2.2.2.2.2.2.2.2.2.1, (x.1.2.2.2.2.2.2.2.2.2.2.1, (x.1.2.2.2.2.2.2.2.2.2.2.2.1, ()))))))))), ((-1 : Int), ()))))), x.1.2.2.2.2.1, (4 : Int), ())).bind fun r16 =>
    if (r16.1.2.1 != (0 : Int)) then
     (F_co ((x.1.1, (x.1.2.1, ((-1 : Int), (x.1.2.2.2.1, (x.1.2.2.2.2.1, (x.1.2.2.2.2.2.1, (x.1.2.2.2.2.2.2.1, (x.1.2.2.2.2.2.2.2.1, (x.1.2.2.2.2.2.2.2.2.1, (x.1.2.2.2.2.2.2.2.2.2.1, (x.1.2.2.2.2.2.2.2.2.2.2.1, (x.1.2.2.2.2.2.2.2.2.2.2.2.1, ((-1 : Int), ()))))))))))))), (2 : Int), x.1.2.2.2.2.1, ())).bind fun r17 =>
     some ((), (r17.2.1, ()))
    else
     if 0 ≤ r16.1.1 ∧ r16.1.1 < ((x.1.2.1.length : Nat) : Int) then
      ((x.1.2.1)[(r16.1.1).toNat]?).bind fun y18 =>
      (F_cv (y18, ())).bind fun r19 =>
      if (!r19.1.2.1) then
       if 0 ≤ r16.1.1 ∧ r16.1.1 < ((x.1.2.1.length : Nat) : Int) then
        ((x.1.2.1)[(r16.1.1).toNat]?).bind fun y20 =>
        (F_co ((x.1.1, (x.1.2.1, ((-1 : Int), (x.1.2.2.2.1, (x.1.2.2.2.2.1, (x.1.2.2.2.2.2.1, (x.1.2.2.2.2.2.2.1, (x.1.2.2.2.2.2.2.2.1, (x.1.2.2.2.2.2.2.2.2.1, (x.1.2.2.2.2.2.2.2.2.2.1, (x.1.2.2.2.2.2.2.2.2.2.2.1, (x.1.2.2.2.2.2.2.2.2.2.2.2.1, ((-1 : Int), ()))))))))))))), (1 : Int), y20, ())).bind fun r21 =>
        some ((), (r21.2.1, ()))
       else none
      else
       (F_dm ((x.1.1, (x.1.2.1, ((-1 : Int), (x.1.2.2.2.1, (x.1.2.2.2.2.1, (x.1.2.2.2.2.2.1, (x.1.2.2.2.2.2.2.1, (x.1.2.2.2.2.2.2.2.1, (x.1.2.2.2.2.2.2.2.2.1, (x.1.2.2.2.2.2.2.2.2.2.1, (x.1.2.2.2.2.2.2.2.2.2.2.1, (x.1.2.2.2.2.2.2.2.2.2.2.2.1, ((-1 : Int), ()))))))))))))), r19.1.1, ())).bind fun r22 =>
       if r22.1.1 then
        let v23 := (IntKind.i64.wrap (r22.2.1.2.2.2.2.2.2.2.2.2.1 + (1 : Int)))
        (F_dn ((1000000000 : Int), v23, ())).bind fun r24 =>
        some ((), ((r22.2.1.1, (r22.2.1.2.1, (r22.2.1.2.2.1, (r22.2.1.2.2.2.1, (r22.2.1.2.2.2.2.1, (r22.2.1.2.2.2.2.2.1, (r22.2.1.2.2.2.2.2.2.1, (r22.2.1.2.2.2.2.2.2.2.1, (r22.2.1.2.2.2.2.2.2.2.2.1, (r24.1.1, (r22.2.1.2.2.2.2.2.2.2.2.2.2.1, (r22.2.1.2.2.2.2.2.2.2.2.2.2.2.1, (r22.2.1.2.2.2.2.2.2.2.2.2.2.2.2.1, ()))))))))))))), ()))
       else
        some ((), (r22.2.1, ()))
     else none
abbrev C_do : Con := ⟨P_do, R_do, F_do, false⟩
abbrev G_do : Env := [(65, C_cu), (146, C_cm), (147, C_co), (148, C_cl), (149, C_cv), (150, C_dm), (151, C_dn)]
theorem g_do : Qe Tryz.prog G_do := (Qa s_cu (Qa s_cm (Qa s_co (Qa s_cl (Qa s_cv (Qa s_dm (Qa s_dn Qc)))))))
theorem r_do (x) : Qf T G_do [] Tryz.f61 C_do.ps C_do.rs x = C_do.F x := by kernel_rfl
theorem s_do : Qb Tryz.prog 61 C_do := fnC (L := []) hT g_do Tryz.f61 okP r_do
abbrev P_fq : List PK := [.box [.dat Y53, .dat Y54, .dat Y27, .dat Y27, .own 2 YI, .own 26 Y25, .dat YI, .dat YI, .dat YI] [.dat Y53, .dat Y54, .dat Y27, .dat Y27, .own 2 YI, .own 26 Y25, .dat YI, .dat YI, .dat YI], .val YI, .val YI]
abbrev R_fq : List VK := []
abbrev i_fq_1 : Shp := { slots := [(0, .s (.ptr 9000000 0)), (1, .s (.dat YI)), (2, .s (.dat YI)), (6, .s (.dat YI))], boxes := [(9000000, [.dat Y53, .dat Y54, .dat Y27, .dat Y27, .own 2 YI, .own 26 Y25, .dat YI, .dat YI, .dat YI])], rows := [] }
abbrev o_fq_1 : List (Ex × Shp) := [(.exit 0, { slots := [], boxes := [(9000000, [.dat Y53, .dat Y54, .dat Y27, .dat Y27, .own 2 YI, .own 26 Y25, .dat YI, .dat YI, .dat YI])], rows := [] })]
def l_fq_1 (rec : i_fq_1.den → Option (denO o_fq_1)) (u1 : i_fq_1.den) : Option (denO o_fq_1) :=
 let v3 := ((u1.2.1.1.2.2.1.length : Nat) : Int)
 if (ltI u1.1.2.2.2.1 v3) then
  if 0 ≤ u1.1.2.2.2.1 then
   ((u1.2.1.1.2.2.1)[(u1.1.2.2.2.1).toNat]?).bind fun y4 =>
   if (y4.1 == u1.1.2.1) = true then
    if (y4.2.1 == u1.1.2.2.1) then
     if 0 ≤ u1.1.2.2.1 ∧ u1.1.2.2.1 < ((u1.2.1.1.2.2.2.2.2.1.length : Nat) : Int) then
      ((u1.2.1.1.2.2.2.2.2.1)[(u1.1.2.2.1).toNat]?).bind fun y5 =>
      let v6 := (u1.2.1.1.2.2.2.2.2.1.set (u1.1.2.2.1).toNat (y5.1, (y5.2.1, (y5.2.2.1, (y5.2.2.2.1, (y5.2.2.2.2.1, (true, y5.2.2.2.2.2.2)))))))
      let v7 := (IntKind.i64.wrap (u1.1.2.2.2.1 + (1 : Int)))
      rec (((), (u1.1.2.1, (u1.1.2.2.1, (v7, ())))), (((u1.2.1.1.1, (u1.2.1.1.2.1, (u1.2.1.1.2.2.1, (u1.2.1.1.2.2.2.1, (u1.2.1.1.2.2.2.2.1, (v6, (u1.2.1.1.2.2.2.2.2.2.1, (u1.2.1.1.2.2.2.2.2.2.2.1, (u1.2.1.1.2.2.2.2.2.2.2.2.1, ()))))))))), ()), ()))
     else none
    else
     let v8 := (IntKind.i64.wrap (u1.1.2.2.2.1 + (1 : Int)))
     rec (((), (u1.1.2.1, (u1.1.2.2.1, (v8, ())))), ((u1.2.1.1, ()), ()))
   else
    let v9 := (IntKind.i64.wrap (u1.1.2.2.2.1 + (1 : Int)))
    rec (((), (u1.1.2.1, (u1.1.2.2.1, (v9, ())))), ((u1.2.1.1, ()), ()))
  else none
 else
  some (.inl ((), ((u1.2.1.1, ()), ())))
def L_fq_1 (x : i_fq_1.den) : Option (denO o_fq_1) := Qd l_fq_1 lots x
def F_fq (x : denP P_fq) : Option (denV R_fq × denQ P_fq) :=
 (L_fq_1 (((), (x.2.1, (x.2.2.1, ((0 : Int), ())))), ((x.1, ()), ()))).bind fun z10 =>
 match z10 with
 | .inl x11 =>
  some ((), (x11.2.1.1, ()))
 | .inr z10_ =>
  none
abbrev C_fq : Con := ⟨P_fq, R_fq, F_fq, false⟩
abbrev G_fq : Env := []
theorem g_fq : Qe Tryz.prog G_fq := Qc
abbrev c_fq_1 : Cut := ⟨i_fq_1, o_fq_1, fun x => Qd l_fq_1 lots x⟩
theorem t_fq_1 (rec x) : run T G_fq [] (nav Tryz.f197 [1, 0, 0]) (mk 43 i_fq_1 x) (Qx i_fq_1 o_fq_1 rec) = l_fq_1 rec x := by kernel_rfl
theorem k_fq_1 : Qu Tryz.prog 43 (.loop (nav Tryz.f197 [1, 0, 0])) c_fq_1 :=
  Qh (L := []) hT g_fq t_fq_1 okP _
theorem r_fq (x) : Qf T G_fq [(1, c_fq_1)] Tryz.f197 C_fq.ps C_fq.rs x = C_fq.F x := by kernel_rfl
theorem s_fq : Qb Tryz.prog 197 C_fq := fnC (L := [(1, c_fq_1)]) hT g_fq Tryz.f197 (okS okP (okB (okU k_fq_1))) r_fq
abbrev P_fr : List PK := [.box [.dat Y53, .dat Y54, .dat Y27, .dat Y27, .own 2 YI, .own 26 Y25, .dat YI, .dat YI, .dat YI] [.dat Y53, .dat Y54, .dat Y27, .dat Y27, .own 2 YI, .own 26 Y25, .dat YI, .dat YI, .dat YI]]
abbrev R_fr : List VK := []
def F_fr (x : denP P_fr) : Option (denV R_fr × denQ P_fr) :=
 if 0 ≤ x.1.2.2.2.2.2.2.1 then
  ((x.1.2.2.2.1)[(x.1.2.2.2.2.2.2.1).toNat]?).bind fun y1 =>
  if 0 ≤ y1.1 ∧ y1.1 < ((x.1.2.2.2.2.2.1.length : Nat) : Int) then
   ((x.1.2.2.2.2.2.1)[(y1.1).toNat]?).bind fun y2 =>
   (F_fp ((x.1.1, (x.1.2.1, (x.1.2.2.1, (x.1.2.2.2.1, ())))), y1.1, ())).bind fun r3 =>
   (F_ck (y2, r3.1.1, x.1.2.2.2.2.1, ())).bind fun r4 =>
   (F_do (r4.1.1, ())).bind fun r5 =>
   if 0 ≤ y1.1 ∧ y1.1 < ((x.1.2.2.2.2.2.1.length : Nat) : Int) then
    ((x.1.2.2.2.2.2.1)[(y1.1).toNat]?).bind fun y6 =>
    let v7 := (x.1.2.2.2.2.2.1.set (y1.1).toNat (r5.2.1.2.2.2.1, (r5.2.1.2.2.2.2.1, (r5.2.1.2.2.2.2.2.1, (r5.2.1.2.2.2.2.2.2.1, (r5.2.1.2.2.2.2.2.2.2.1, (r5.2.1.2.2.2.2.2.2.2.2.1, (r5.2.1.2.2.2.2.2.2.2.2.2.1, (r5.2.1.2.2.2.2.2.2.2.2.2.2.1, (r5.2.1.2.2.2.2.2.2.2.2.2.2.2.1, ()))))))))))
    if (leI (0 : Int) r5.2.1.2.2.1) then
     (F_fq ((x.1.1, (x.1.2.1, (x.1.2.2.1, (x.1.2.2.2.1, (r5.2.1.2.1, (v7, (x.1.2.2.2.2.2.2.1, (x.1.2.2.2.2.2.2.2.1, (x.1.2.2.2.2.2.2.2.2.1, ()))))))))), y1.1, r5.2.1.2.2.1, ())).bind fun r8 =>
     let v9 := (IntKind.i64.wrap (r8.2.1.2.2.2.2.2.2.2.2.1 + (1 : Int)))
     let v10 := (IntKind.i64.wrap (r8.2.1.2.2.2.2.2.2.2.1 - (1 : Int)))
     if (v10 == (0 : Int)) then
      let v11 := (IntKind.i64.wrap (r8.2.1.2.2.2.2.2.2.1 + (1 : Int)))
      let v12 := ((r8.2.1.2.2.2.1.length : Nat) : Int)
      if v12 = 0 then none else
      let v13 := ((v11).tmod v12)
      if 0 ≤ v13 then
       ((r8.2.1.2.2.2.1)[(v13).toNat]?).bind fun y14 =>
       some ((), ((r8.2.1.1, (r8.2.1.2.1, (r8.2.1.2.2.1, (r8.2.1.2.2.2.1, (r8.2.1.2.2.2.2.1, (r8.2.1.2.2.2.2.2.1, (v13, (y14.2.1, (v9, ()))))))))), ()))
      else none
     else
      some ((), ((r8.2.1.1, (r8.2.1.2.1, (r8.2.1.2.2.1, (r8.2.1.2.2.2.1, (r8.2.1.2.2.2.2.1, (r8.2.1.2.2.2.2.2.1, (r8.2.1.2.2.2.2.2.2.1, (v10, (v9, ()))))))))), ()))
    else
     let v15 := (IntKind.i64.wrap (x.1.2.2.2.2.2.2.2.2.1 + (1 : Int)))
     let v16 := (IntKind.i64.wrap (x.1.2.2.2.2.2.2.2.1 - (1 : Int)))
     if (v16 == (0 : Int)) then
      let v17 := (IntKind.i64.wrap (x.1.2.2.2.2.2.2.1 + (1 : Int)))
      let v18 := ((x.1.2.2.2.1.length : Nat) : Int)
      if v18 = 0 then none else
      let v19 := ((v17).tmod v18)
      if 0 ≤ v19 then
       ((x.1.2.2.2.1)[(v19).toNat]?).bind fun y20 =>
       some ((), ((x.1.1, (x.1.2.1, (x.1.2.2.1, (x.1.2.2.2.1, (r5.2.1.2.1, (v7, (v19, (y20.2.1, (v15, ()))))))))), ()))
      else none
     else
      some ((), ((x.1.1, (x.1.2.1, (x.1.2.2.1, (x.1.2.2.2.1, (r5.2.1.2.1, (v7, (x.1.2.2.2.2.2.2.1, (v16, (v15, ()))))))))), ()))
   else none
  else none
 else none
abbrev C_fr : Con := ⟨P_fr, R_fr, F_fr, false⟩
abbrev G_fr : Env := [(60, C_ck), (61, C_do), (196, C_fp), (197, C_fq)]
theorem g_fr : Qe Tryz.prog G_fr := (Qa s_ck (Qa s_do (Qa s_fp (Qa s_fq Qc))))
theorem r_fr (x) : Qf T G_fr [] Tryz.f111 C_fr.ps C_fr.rs x = C_fr.F x := by kernel_rfl
theorem s_fr : Qb Tryz.prog 111 C_fr := fnC (L := []) hT g_fr Tryz.f111 okP r_fr
abbrev P_fs : List PK := [.val Y62, .val Y62, .val YI, .val YI]
abbrev R_fs : List VK := [.s (.dat Y80)]
abbrev i_fs_15 : Shp := { slots := [(2, .s (.dat YI)), (3, .s (.dat YI)), (8, .s (.ptr 8 0)), (11, .s (.ptr 11 0)), (12, .s (.ptr 12 0)), (13, .s (.dat YI))], boxes := [(8, [.dat YI, .dat YI, .dat .bool]), (11, [.dat Y53, .dat Y54, .dat Y27, .dat Y27, .own 2 YI, .own 26 Y25, .dat YI, .dat YI, .dat YI]), (12, [.dat Y53, .dat Y54, .dat Y27, .dat Y27, .own 2 YI, .own 26 Y25, .dat YI, .dat YI, .dat YI])], rows := [] }
abbrev o_fs_15 : List (Ex × Shp) := [(.ret, { slots := [(8, .s (.ptr 8 0))], boxes := [(8, [.dat YI, .dat YI, .dat .bool])], rows := [] })]
def l_fs_15 (rec : i_fs_15.den → Option (denO o_fs_15)) (u15 : i_fs_15.den) : Option (denO o_fs_15) :=
 (F_fl (((u15.2.1.2.1.1, (u15.2.1.2.1.2.1, (u15.2.1.2.1.2.2.1, (u15.2.1.2.1.2.2.2.1, ())))), (u15.2.1.2.1.2.2.2.2.1, (u15.2.1.2.1.2.2.2.2.2.1, (u15.2.1.2.1.2.2.2.2.2.2.1, (u15.2.1.2.1.2.2.2.2.2.2.2.1, (u15.2.1.2.1.2.2.2.2.2.2.2.2.1, ())))))), u15.1.1, ())).bind fun r23 =>
 (F_fl (((u15.2.1.2.2.1.1, (u15.2.1.2.2.1.2.1, (u15.2.1.2.2.1.2.2.1, (u15.2.1.2.2.1.2.2.2.1, ())))), (u15.2.1.2.2.1.2.2.2.2.1, (u15.2.1.2.2.1.2.2.2.2.2.1, (u15.2.1.2.2.1.2.2.2.2.2.2.1, (u15.2.1.2.2.1.2.2.2.2.2.2.2.1, (u15.2.1.2.2.1.2.2.2.2.2.2.2.2.1, ())))))), u15.1.1, ())).bind fun r24 =>
 (F_fo (((r23.1.1.1, (r23.1.1.2.1, (r23.1.1.2.2.1, (r23.1.1.2.2.2.1, (r23.1.1.2.2.2.2.1, (r23.1.1.2.2.2.2.2.1, (r23.1.1.2.2.2.2.2.2.1, (r23.1.1.2.2.2.2.2.2.2.1, (r23.1.1.2.2.2.2.2.2.2.2.1, ()))))))))), (r23.1.1.2.2.2.2.2.2.2.2.2.1, (r23.1.1.2.2.2.2.2.2.2.2.2.2.1, ()))), ((r24.1.1.1, (r24.1.1.2.1, (r24.1.1.2.2.1, (r24.1.1.2.2.2.1, (r24.1.1.2.2.2.2.1, (r24.1.1.2.2.2.2.2.1, (r24.1.1.2.2.2.2.2.2.1, (r24.1.1.2.2.2.2.2.2.2.1, (r24.1.1.2.2.2.2.2.2.2.2.1, ()))))))))), (r24.1.1.2.2.2.2.2.2.2.2.2.1, (r24.1.1.2.2.2.2.2.2.2.2.2.2.1, ()))), ())).bind fun r25 =>
 if (!r25.1.1) then
  some (.inl (((), ()), ((((0 : Int), (u15.1.2.2.2.2.2.1, (false, ()))), ()), ())))
 else
  if (u15.1.2.2.2.2.2.1 == u15.1.2.1) then
   some (.inl (((), ()), ((((0 : Int), ((0 : Int), (true, ()))), ()), ())))
  else
   (F_fr (u15.2.1.2.1, ())).bind fun r26 =>
   (F_fr (u15.2.1.2.2.1, ())).bind fun r27 =>
   let v28 := (IntKind.i64.wrap (u15.1.2.2.2.2.2.1 + (1 : Int)))
   rec ((u15.1.1, (u15.1.2.1, ((), ((), ((), (v28, ())))))), ((u15.2.1.1, (r26.2.1, (r27.2.1, ()))), ()))
def L_fs_15 (x : i_fs_15.den) : Option (denO o_fs_15) := Qd l_fs_15 lots x
def F_fs (x : denP P_fs) : Option (denV R_fs × denQ P_fs) :=
 (F_fe (x.1, ())).bind fun r1 =>
 if (r1.1.1 != (0 : Int)) then
  (F_ff (r1.1.1, ())).bind fun r2 =>
  some ((r2.1.1, ()), ())
 else
  (F_fe (x.2.1, ())).bind fun r3 =>
  if (r3.1.1 != (0 : Int)) then
   (F_ff (r3.1.1, ())).bind fun r4 =>
   some ((r4.1.1, ()), ())
  else
   (F_ev (x.1.1, x.2.2.1, ())).bind fun r5 =>
   if (!r5.1.1) = false then
    (F_ev (x.2.1.1, x.2.2.1, ())).bind fun r6 =>
    if (!r6.1.1) then
     (F_ff ((4 : Int), ())).bind fun r7 =>
     some ((r7.1.1, ()), ())
    else
     (F_fg (x.1, x.2.2.2.1, ())).bind fun r8 =>
     if (!r8.1.1) = false then
      (F_fg (x.2.1, x.2.2.2.1, ())).bind fun r9 =>
      if (!r9.1.1) then
       (F_ff ((3 : Int), ())).bind fun r10 =>
       some ((r10.1.1, ()), ())
      else
       (F_fi (x.1, ())).bind fun r11 =>
       (F_fi (x.2.1, ())).bind fun r12 =>
       (L_fs_15 ((x.2.2.1, (x.2.2.2.1, ((), ((), ((), ((0 : Int), ())))))), ((((0 : Int), ((0 : Int), (false, ()))), (r11.1.1, (r12.1.1, ()))), ()))).bind fun z29 =>
       match z29 with
       | .inl x30 =>
        some ((x30.2.1.1, ()), ())
       | .inr z29_ =>
        none
     else
      (F_ff ((3 : Int), ())).bind fun r31 =>
      some ((r31.1.1, ()), ())
   else
    (F_ff ((4 : Int), ())).bind fun r32 =>
    some ((r32.1.1, ()), ())
abbrev C_fs : Con := ⟨P_fs, R_fs, F_fs, false⟩
abbrev G_fs : Env := [(104, C_fe), (105, C_ff), (106, C_ev), (107, C_fg), (108, C_fi), (109, C_fo), (110, C_fl), (111, C_fr)]
theorem g_fs : Qe Tryz.prog G_fs := (Qa s_fe (Qa s_ff (Qa s_ev (Qa s_fg (Qa s_fi (Qa s_fo (Qa s_fl (Qa s_fr Qc))))))))
abbrev c_fs_15 : Cut := ⟨i_fs_15, o_fs_15, fun x => Qd l_fs_15 lots x⟩
theorem t_fs_15 (rec x) : run T G_fs [] (nav Tryz.f43 [1, 1, 1, 1, 1, 1, 1, 1, 0, 0]) (mk 64 i_fs_15 x) (Qx i_fs_15 o_fs_15 rec) = l_fs_15 rec x := by kernel_rfl
theorem k_fs_15 : Qu Tryz.prog 64 (.loop (nav Tryz.f43 [1, 1, 1, 1, 1, 1, 1, 1, 0, 0])) c_fs_15 :=
  Qh (L := []) hT g_fs t_fs_15 okP _
theorem r_fs (x) : Qf T G_fs [(15, c_fs_15)] Tryz.f43 C_fs.ps C_fs.rs x = C_fs.F x := by kernel_rfl
theorem s_fs : Qb Tryz.prog 43 C_fs := fnC (L := [(15, c_fs_15)]) hT g_fs Tryz.f43 (okS okP (okS okP (okS okP (okS okP (okS okP (okS okP (okS okP (okS okP (okB (okU k_fs_15)))))))))) r_fs
abbrev P_ab : List PK := [.val YI, .val YI, .val YI]
abbrev R_ab : List VK := [.s (.dat .bool)]
def F_ab (x : denP P_ab) : Option (denV R_ab × denQ P_ab) :=
 if (leI x.2.1 x.1) = true then
  some (((leI x.1 x.2.2.1), ()), ())
 else
  some ((false, ()), ())
abbrev C_ab : Con := ⟨P_ab, R_ab, F_ab, false⟩
abbrev G_ab : Env := []
theorem g_ab : Qe Tryz.prog G_ab := Qc
theorem r_ab (x) : Qf T G_ab [] Tryz.f56 C_ab.ps C_ab.rs x = C_ab.F x := by kernel_rfl
theorem s_ab : Qb Tryz.prog 56 C_ab := fnC (L := []) hT g_ab Tryz.f56 okP r_ab
abbrev P_ft : List PK := [.ptr Y57]
abbrev R_ft : List VK := [.s (.dat YI)]
abbrev i_ft_10 : Shp := { slots := [(3, .s (.mp)), (4, .s (.dat .bool)), (20, .s (.dat Y53)), (21, .s (.dat YI)), (22, .s (.dat YI)), (30, .s (.dat Y24)), (31, .s (.dat YI)), (32, .s (.dat YI))], boxes := [], rows := [] }
abbrev o_ft_10 : List (Ex × Shp) := [(.exit 2, { slots := [(3, .s (.mp)), (4, .s (.dat .bool)), (20, .s (.dat Y53)), (21, .s (.dat YI)), (22, .s (.dat YI))], boxes := [], rows := [] }), (.ret, { slots := [(2, .s (.dat YI))], boxes := [], rows := [] })]
def l_ft_10 (rec : i_ft_10.den → Option (denO o_ft_10)) (u10 : i_ft_10.den) : Option (denO o_ft_10) :=
 if (ltI u10.1.2.2.2.2.2.2.2.1 u10.1.2.2.2.2.2.2.1) then
  if 0 ≤ u10.1.2.2.2.2.2.2.2.1 then
   ((u10.1.2.2.2.2.2.1)[(u10.1.2.2.2.2.2.2.2.1).toNat]?).bind fun y17 =>
   (F_ab (y17, (0 : Int), (23 : Int), ())).bind fun r18 =>
   if (!r18.1.1) then
    some (.inr (.inl (((3 : Int), ()), ((), ()))))
   else
    if u10.1.2.1 = false then
     let v19 := (IntKind.i64.wrap (u10.1.2.2.2.2.2.2.2.1 + (1 : Int)))
     rec (((setM u10.1.1 y17 true), ((getM u10.1.1 y17), (u10.1.2.2.1, (u10.1.2.2.2.1, (u10.1.2.2.2.2.1, (u10.1.2.2.2.2.2.1, (u10.1.2.2.2.2.2.2.1, (v19, ())))))))), ((), ()))
    else
     let v20 := (IntKind.i64.wrap (u10.1.2.2.2.2.2.2.2.1 + (1 : Int)))
     rec (((setM u10.1.1 y17 true), (true, (u10.1.2.2.1, (u10.1.2.2.2.1, (u10.1.2.2.2.2.1, (u10.1.2.2.2.2.2.1, (u10.1.2.2.2.2.2.2.1, (v20, ())))))))), ((), ()))
  else none
 else
  some (.inl ((u10.1.1, (u10.1.2.1, (u10.1.2.2.1, (u10.1.2.2.2.1, (u10.1.2.2.2.2.1, ()))))), ((), ())))
def L_ft_10 (x : i_ft_10.den) : Option (denO o_ft_10) := Qd l_ft_10 lots x
abbrev i_ft_5 : Shp := { slots := [(3, .s (.mp)), (4, .s (.dat .bool)), (20, .s (.dat Y53)), (21, .s (.dat YI)), (22, .s (.dat YI))], boxes := [], rows := [] }
abbrev o_ft_5 : List (Ex × Shp) := [(.exit 0, { slots := [(4, .s (.dat .bool))], boxes := [], rows := [] }), (.ret, { slots := [(2, .s (.dat YI))], boxes := [], rows := [] })]
def l_ft_5 (rec : i_ft_5.den → Option (denO o_ft_5)) (u5 : i_ft_5.den) : Option (denO o_ft_5) :=
 if (ltI u5.1.2.2.2.2.1 u5.1.2.2.2.1) then
  if 0 ≤ u5.1.2.2.2.2.1 then
   ((u5.1.2.2.1)[(u5.1.2.2.2.2.1).toNat]?).bind fun y11 =>
   let v12 := ((y11.length : Nat) : Int)
   (F_ab (v12, (1 : Int), (5 : Int), ())).bind fun r13 =>
   if (!r13.1.1) then
    some (.inr (.inl (((2 : Int), ()), ((), ()))))
   else
    let v14 := ((y11.length : Nat) : Int)
    (L_ft_10 ((u5.1.1, (u5.1.2.1, (u5.1.2.2.1, (u5.1.2.2.2.1, (u5.1.2.2.2.2.1, (y11, (v14, ((0 : Int), ())))))))), ((), ()))).bind fun z21 =>
    match z21 with
    | .inl x22 =>
     let v23 := (IntKind.i64.wrap (x22.1.2.2.2.2.1 + (1 : Int)))
     rec ((x22.1.1, (x22.1.2.1, (x22.1.2.2.1, (x22.1.2.2.2.1, (v23, ()))))), ((), ()))
    | .inr z21_ =>
     match z21_ with
     | .inl x24 =>
      some (.inr (.inl ((x24.1.1, ()), ((), ()))))
     | .inr z21__ =>
      none
  else none
 else
  some (.inl ((u5.1.2.1, ()), ((), ())))
def L_ft_5 (x : i_ft_5.den) : Option (denO o_ft_5) := Qd l_ft_5 lots x
def F_ft (x : denP P_ft) : Option (denV R_ft × denQ P_ft) :=
 let v1 := ((x.1.1.length : Nat) : Int)
 (F_ab (v1, (1 : Int), (3 : Int), ())).bind fun r2 =>
 if (!r2.1.1) then
  some (((2 : Int), ()), ())
 else
  let v3 := ((x.1.1.length : Nat) : Int)
  (L_ft_5 ((([] : List (Int × Bool)), (false, (x.1.1, (v3, ((0 : Int), ()))))), ((), ()))).bind fun z25 =>
  match z25 with
  | .inl x26 =>
   if x26.1.1 then
    some (((6 : Int), ()), ())
   else
    some (((0 : Int), ()), ())
  | .inr z25_ =>
   match z25_ with
   | .inl x27 =>
    some ((x27.1.1, ()), ())
   | .inr z25__ =>
    none
abbrev C_ft : Con := ⟨P_ft, R_ft, F_ft, false⟩
abbrev G_ft : Env := [(56, C_ab)]
theorem g_ft : Qe Tryz.prog G_ft := (Qa s_ab Qc)
abbrev c_ft_10 : Cut := ⟨i_ft_10, o_ft_10, fun x => Qd l_ft_10 lots x⟩
theorem t_ft_10 (rec x) : run T G_ft [] (nav Tryz.f169 [1, 1, 1, 0, 1, 0, 0, 1, 1, 0, 0, 1, 1, 1, 0, 0]) (mk 50 i_ft_10 x) (Qx i_ft_10 o_ft_10 rec) = l_ft_10 rec x := by kernel_rfl
theorem k_ft_10 : Qu Tryz.prog 50 (.loop (nav Tryz.f169 [1, 1, 1, 0, 1, 0, 0, 1, 1, 0, 0, 1, 1, 1, 0, 0])) c_ft_10 :=
  Qh (L := []) hT g_ft t_ft_10 okP _
abbrev c_ft_5 : Cut := ⟨i_ft_5, o_ft_5, fun x => Qd l_ft_5 lots x⟩
theorem t_ft_5 (rec x) : run T G_ft [(10, c_ft_10)] (nav Tryz.f169 [1, 1, 1, 0, 1, 0, 0]) (mk 50 i_ft_5 x) (Qx i_ft_5 o_ft_5 rec) = l_ft_5 rec x := by kernel_rfl
theorem k_ft_5 : Qu Tryz.prog 50 (.loop (nav Tryz.f169 [1, 1, 1, 0, 1, 0, 0])) c_ft_5 :=
  Qh (L := [(10, c_ft_10)]) hT g_ft t_ft_5 (okS okP (okS okP (okS (okB (okS okP (okS okP (okS okP (okB (okU k_ft_10)))))) okP))) _
theorem r_ft (x) : Qf T G_ft [(10, c_ft_10), (5, c_ft_5)] Tryz.f169 C_ft.ps C_ft.rs x = C_ft.F x := by kernel_rfl
theorem s_ft : Qb Tryz.prog 169 C_ft := fnC (L := [(10, c_ft_10), (5, c_ft_5)]) hT g_ft Tryz.f169 (okS okP (okS okP (okS okP (okS (okS okP (okB (okU k_ft_5))) okP)))) r_ft
abbrev P_fu : List PK := [.ptr Y57, .val YI]
abbrev R_fu : List VK := [.s (.dat .bool)]
def F_fu (x : denP P_fu) : Option (denV R_fu × denQ P_fu) :=
 let v1 := ((x.1.1.length : Nat) : Int)
 let v2 := (IntKind.i64.wrap (v1 - (1 : Int)))
 (F_ab (x.2.1, (0 : Int), v2, ())).bind fun r3 =>
 some ((r3.1.1, ()), ())
abbrev C_fu : Con := ⟨P_fu, R_fu, F_fu, false⟩
abbrev G_fu : Env := [(56, C_ab)]
theorem g_fu : Qe Tryz.prog G_fu := (Qa s_ab Qc)
theorem r_fu (x) : Qf T G_fu [] Tryz.f81 C_fu.ps C_fu.rs x = C_fu.F x := by kernel_rfl
theorem s_fu : Qb Tryz.prog 81 C_fu := fnC (L := []) hT g_fu Tryz.f81 okP r_fu
abbrev P_fv : List PK := [.ptr Y57, .val YI, .val YI]
abbrev R_fv : List VK := [.s (.dat YI)]
def F_fv (x : denP P_fv) : Option (denV R_fv × denQ P_fv) :=
 (F_fu (x.1, x.2.1, ())).bind fun r1 =>
 if (!r1.1.1) = false then
  (F_fu (x.1, x.2.2.1, ())).bind fun r2 =>
  if (!r2.1.1) then
   some (((4 : Int), ()), ())
  else
   if (x.2.1 == x.2.2.1) then
    some (((1 : Int), ()), ())
   else
    some (((0 : Int), ()), ())
 else
  some (((4 : Int), ()), ())
abbrev C_fv : Con := ⟨P_fv, R_fv, F_fv, false⟩
abbrev G_fv : Env := [(81, C_fu)]
theorem g_fv : Qe Tryz.prog G_fv := (Qa s_fu Qc)
theorem r_fv (x) : Qf T G_fv [] Tryz.f238 C_fv.ps C_fv.rs x = C_fv.F x := by kernel_rfl
theorem s_fv : Qb Tryz.prog 238 C_fv := fnC (L := []) hT g_fv Tryz.f238 okP r_fv
abbrev P_fw : List PK := [.val Y24, .val YI]
abbrev R_fw : List VK := [.s (.dat YI)]
abbrev i_fw_2 : Shp := { slots := [(0, .s (.dat Y24)), (1, .s (.dat YI)), (7, .s (.dat YI)), (8, .s (.dat YI))], boxes := [], rows := [] }
abbrev o_fw_2 : List (Ex × Shp) := [(.exit 0, { slots := [], boxes := [], rows := [] }), (.ret, { slots := [(4, .s (.dat YI))], boxes := [], rows := [] })]
def l_fw_2 (rec : i_fw_2.den → Option (denO o_fw_2)) (u2 : i_fw_2.den) : Option (denO o_fw_2) :=
 if (ltI u2.1.2.2.2.1 u2.1.2.2.1) then
  if 0 ≤ u2.1.2.2.2.1 then
   ((u2.1.1)[(u2.1.2.2.2.1).toNat]?).bind fun y3 =>
   if (u2.1.2.1 == y3) then
    some (.inr (.inl ((u2.1.2.2.2.1, ()), ((), ()))))
   else
    let v4 := (IntKind.i64.wrap (u2.1.2.2.2.1 + (1 : Int)))
    rec ((u2.1.1, (u2.1.2.1, (u2.1.2.2.1, (v4, ())))), ((), ()))
  else none
 else
  some (.inl ((), ((), ())))
def L_fw_2 (x : i_fw_2.den) : Option (denO o_fw_2) := Qd l_fw_2 lots x
def F_fw (x : denP P_fw) : Option (denV R_fw × denQ P_fw) :=
 let v1 := ((x.1.length : Nat) : Int)
 (L_fw_2 ((x.1, (x.2.1, (v1, ((0 : Int), ())))), ((), ()))).bind fun z5 =>
 match z5 with
 | .inl x6 =>
  some (((-1 : Int), ()), ())
 | .inr z5_ =>
  match z5_ with
  | .inl x7 =>
   some ((x7.1.1, ()), ())
  | .inr z5__ =>
   none
abbrev C_fw : Con := ⟨P_fw, R_fw, F_fw, false⟩
abbrev G_fw : Env := []
theorem g_fw : Qe Tryz.prog G_fw := Qc
abbrev c_fw_2 : Cut := ⟨i_fw_2, o_fw_2, fun x => Qd l_fw_2 lots x⟩
theorem t_fw_2 (rec x) : run T G_fw [] (nav Tryz.f182 [1, 0, 1, 0, 0]) (mk 19 i_fw_2 x) (Qx i_fw_2 o_fw_2 rec) = l_fw_2 rec x := by kernel_rfl
theorem k_fw_2 : Qu Tryz.prog 19 (.loop (nav Tryz.f182 [1, 0, 1, 0, 0])) c_fw_2 :=
  Qh (L := []) hT g_fw t_fw_2 okP _
theorem r_fw (x) : Qf T G_fw [(2, c_fw_2)] Tryz.f182 C_fw.ps C_fw.rs x = C_fw.F x := by kernel_rfl
theorem s_fw : Qb Tryz.prog 182 C_fw := fnC (L := [(2, c_fw_2)]) hT g_fw Tryz.f182 (okS okP (okS (okS okP (okB (okU k_fw_2))) okP)) r_fw
abbrev P_fx : List PK := [.val Y24, .val YI]
abbrev R_fx : List VK := [.s (.dat .bool)]
def F_fx (x : denP P_fx) : Option (denV R_fx × denQ P_fx) :=
 (F_fw (x.1, x.2.1, ())).bind fun r1 =>
 some (((leI (0 : Int) r1.1.1), ()), ())
abbrev C_fx : Con := ⟨P_fx, R_fx, F_fx, false⟩
abbrev G_fx : Env := [(182, C_fw)]
theorem g_fx : Qe Tryz.prog G_fx := (Qa s_fw Qc)
theorem r_fx (x) : Qf T G_fx [] Tryz.f97 C_fx.ps C_fx.rs x = C_fx.F x := by kernel_rfl
theorem s_fx : Qb Tryz.prog 97 C_fx := fnC (L := []) hT g_fx Tryz.f97 okP r_fx
abbrev P_fy_1 : List PK := [.val Y24, .ptr YI]
abbrev R_fy_1 : List VK := [.s (.dat .bool)]
def F_fy_1 (x : denP P_fy_1) : Option (denV R_fy_1 × denQ P_fy_1) :=
 (F_fx (x.1, x.2.1, ())).bind fun r1 =>
 some ((r1.1.1, ()), ())
abbrev C_fy_1 : Con := ⟨P_fy_1, R_fy_1, F_fy_1, false⟩
abbrev G_fy_1 : Env := [(97, C_fx)]
theorem g_fy_1 : Qe Tryz.prog G_fy_1 := (Qa s_fx Qc)
theorem r_fy_1 (x) : Qf T G_fy_1 [] Tryz.f287 C_fy_1.ps C_fy_1.rs x = C_fy_1.F x := by kernel_rfl
theorem s_fy_1 : Qb Tryz.prog 287 C_fy_1 := fnC (L := []) hT g_fy_1 Tryz.f287 okP r_fy_1
abbrev P_fz_1 : List PK := [.val Y53, .fn 287 [YI]]
abbrev R_fz_1 : List VK := [.s (.dat YI)]
abbrev i_ga_2 : Shp := { slots := [(0, .s (.dat Y53)), (1, .s (.fn 287 [YI])), (7, .s (.dat YI)), (8, .s (.dat YI))], boxes := [], rows := [] }
abbrev o_ga_2 : List (Ex × Shp) := [(.exit 0, { slots := [], boxes := [], rows := [] }), (.ret, { slots := [(4, .s (.dat YI))], boxes := [], rows := [] })]
def l_ga_2 (rec : i_ga_2.den → Option (denO o_ga_2)) (u2 : i_ga_2.den) : Option (denO o_ga_2) :=
 if (ltI u2.1.2.2.2.1 u2.1.2.2.1) then
  if 0 ≤ u2.1.2.2.2.1 then
   ((u2.1.1)[(u2.1.2.2.2.1).toNat]?).bind fun y4 =>
   (F_fy_1 (y4, u2.1.2.1.1, ())).bind fun r5 =>
   if r5.1.1 then
    some (.inr (.inl ((u2.1.2.2.2.1, ()), ((), ()))))
   else
    let v6 := (IntKind.i64.wrap (u2.1.2.2.2.1 + (1 : Int)))
    rec ((u2.1.1, ((u2.1.2.1.1, ()), (u2.1.2.2.1, (v6, ())))), ((), ()))
  else none
 else
  some (.inl ((), ((), ())))
def L_ga_2 (x : i_ga_2.den) : Option (denO o_ga_2) := Qd l_ga_2 lots x
def F_fz_1 (x : denP P_fz_1) : Option (denV R_fz_1 × denQ P_fz_1) :=
 let v1 := ((x.1.length : Nat) : Int)
 (L_ga_2 ((x.1, ((x.2.1.1, ()), (v1, ((0 : Int), ())))), ((), ()))).bind fun z7 =>
 match z7 with
 | .inl x8 =>
  some (((-1 : Int), ()), ())
 | .inr z7_ =>
  match z7_ with
  | .inl x9 =>
   some ((x9.1.1, ()), ())
  | .inr z7__ =>
   none
abbrev C_fz_1 : Con := ⟨P_fz_1, R_fz_1, F_fz_1, false⟩
abbrev G_fz_1 : Env := [(287, C_fy_1)]
theorem g_fz_1 : Qe Tryz.prog G_fz_1 := (Qa s_fy_1 Qc)
abbrev c_ga_2 : Cut := ⟨i_ga_2, o_ga_2, fun x => Qd l_ga_2 lots x⟩
theorem t_ga_2 (rec x) : run T G_fz_1 [] (nav Tryz.f286 [1, 0, 1, 0, 0]) (mk 19 i_ga_2 x) (Qx i_ga_2 o_ga_2 rec) = l_ga_2 rec x := by kernel_rfl
theorem k_ga_2 : Qu Tryz.prog 19 (.loop (nav Tryz.f286 [1, 0, 1, 0, 0])) c_ga_2 :=
  Qh (L := []) hT g_fz_1 t_ga_2 okP _
theorem r_fz_1 (x) : Qf T G_fz_1 [(2, c_ga_2)] Tryz.f286 C_fz_1.ps C_fz_1.rs x = C_fz_1.F x := by kernel_rfl
theorem s_fz_1 : Qb Tryz.prog 286 C_fz_1 := fnC (L := [(2, c_ga_2)]) hT g_fz_1 Tryz.f286 (okS okP (okS (okS okP (okB (okU k_ga_2))) okP)) r_fz_1
abbrev P_fy : List PK := [.ptr Y57, .val YI]
abbrev R_fy : List VK := [.s (.dat YI)]
def F_fy (x : denP P_fy) : Option (denV R_fy × denQ P_fy) :=
 (F_fz_1 (x.1.1, (x.2.1, ()), ())).bind fun r1 =>
 some ((r1.1.1, ()), ())
abbrev C_fy : Con := ⟨P_fy, R_fy, F_fy, false⟩
abbrev G_fy : Env := [(286, C_fz_1)]
theorem g_fy : Qe Tryz.prog G_fy := (Qa s_fz_1 Qc)
theorem r_fy (x) : Qf T G_fy [] Tryz.f239 C_fy.ps C_fy.rs x = C_fy.F x := by kernel_rfl
theorem s_fy : Qb Tryz.prog 239 C_fy := fnC (L := []) hT g_fy Tryz.f239 okP r_fy
abbrev P_gb : List PK := [.val Y68, .val YI, .val YI]
abbrev R_gb : List VK := [.s (.dat .bool)]
def F_gb (x : denP P_gb) : Option (denV R_gb × denQ P_gb) :=
 if (x.1.1 == x.2.1) = true then
  if (x.1.2.2.2.1 == x.2.2.1) = false then
   if (x.1.2.1 == x.2.1) = true then
    some (((x.1.2.2.2.2.1 == x.2.2.1), ()), ())
   else
    some ((false, ()), ())
  else
   some ((true, ()), ())
 else
  if (x.1.2.1 == x.2.1) = true then
   some (((x.1.2.2.2.2.1 == x.2.2.1), ()), ())
  else
   some ((false, ()), ())
abbrev C_gb : Con := ⟨P_gb, R_gb, F_gb, false⟩
abbrev G_gb : Env := []
theorem g_gb : Qe Tryz.prog G_gb := Qc
theorem r_gb (x) : Qf T G_gb [] Tryz.f242 C_gb.ps C_gb.rs x = C_gb.F x := by kernel_rfl
theorem s_gb : Qb Tryz.prog 242 C_gb := fnC (L := []) hT g_gb Tryz.f242 okP r_gb
abbrev P_gc_1 : List PK := [.val Y68, .ptr Y68]
abbrev R_gc_1 : List VK := [.s (.dat .bool)]
def F_gc_1 (x : denP P_gc_1) : Option (denV R_gc_1 × denQ P_gc_1) :=
 if (x.1.2.2.1 == x.2.1.2.2.1) = false then
  (F_gb (x.1, x.2.1.1, x.2.1.2.2.2.1, ())).bind fun r1 =>
  if r1.1.1 = false then
   (F_gb (x.1, x.2.1.2.1, x.2.1.2.2.2.2.1, ())).bind fun r2 =>
   some ((r2.1.1, ()), ())
  else
   some ((true, ()), ())
 else
  some ((true, ()), ())
abbrev C_gc_1 : Con := ⟨P_gc_1, R_gc_1, F_gc_1, false⟩
abbrev G_gc_1 : Env := [(242, C_gb)]
theorem g_gc_1 : Qe Tryz.prog G_gc_1 := (Qa s_gb Qc)
theorem r_gc_1 (x) : Qf T G_gc_1 [] Tryz.f241 C_gc_1.ps C_gc_1.rs x = C_gc_1.F x := by kernel_rfl
theorem s_gc_1 : Qb Tryz.prog 241 C_gc_1 := fnC (L := []) hT g_gc_1 Tryz.f241 okP r_gc_1
abbrev P_gd_1 : List PK := [.val Y54, .fn 241 [Y68]]
abbrev R_gd_1 : List VK := [.s (.dat YI)]
abbrev i_ge_2 : Shp := { slots := [(0, .s (.dat Y54)), (1, .s (.fn 241 [Y68])), (7, .s (.dat YI)), (8, .s (.dat YI))], boxes := [], rows := [] }
abbrev o_ge_2 : List (Ex × Shp) := [(.exit 0, { slots := [], boxes := [], rows := [] }), (.ret, { slots := [(4, .s (.dat YI))], boxes := [], rows := [] })]
def l_ge_2 (rec : i_ge_2.den → Option (denO o_ge_2)) (u2 : i_ge_2.den) : Option (denO o_ge_2) :=
 if (ltI u2.1.2.2.2.1 u2.1.2.2.1) then
  if 0 ≤ u2.1.2.2.2.1 then
   ((u2.1.1)[(u2.1.2.2.2.1).toNat]?).bind fun y4 =>
   (F_gc_1 (y4, u2.1.2.1.1, ())).bind fun r5 =>
   if r5.1.1 then
    some (.inr (.inl ((u2.1.2.2.2.1, ()), ((), ()))))
   else
    let v6 := (IntKind.i64.wrap (u2.1.2.2.2.1 + (1 : Int)))
    rec ((u2.1.1, ((u2.1.2.1.1, ()), (u2.1.2.2.1, (v6, ())))), ((), ()))
  else none
 else
  some (.inl ((), ((), ())))
def L_ge_2 (x : i_ge_2.den) : Option (denO o_ge_2) := Qd l_ge_2 lots x
def F_gd_1 (x : denP P_gd_1) : Option (denV R_gd_1 × denQ P_gd_1) :=
 let v1 := ((x.1.length : Nat) : Int)
 (L_ge_2 ((x.1, ((x.2.1.1, ()), (v1, ((0 : Int), ())))), ((), ()))).bind fun z7 =>
 match z7 with
 | .inl x8 =>
  some (((-1 : Int), ()), ())
 | .inr z7_ =>
  match z7_ with
  | .inl x9 =>
   some ((x9.1.1, ()), ())
  | .inr z7__ =>
   none
abbrev C_gd_1 : Con := ⟨P_gd_1, R_gd_1, F_gd_1, false⟩
abbrev G_gd_1 : Env := [(241, C_gc_1)]
theorem g_gd_1 : Qe Tryz.prog G_gd_1 := (Qa s_gc_1 Qc)
abbrev c_ge_2 : Cut := ⟨i_ge_2, o_ge_2, fun x => Qd l_ge_2 lots x⟩
theorem t_ge_2 (rec x) : run T G_gd_1 [] (nav Tryz.f288 [1, 0, 1, 0, 0]) (mk 19 i_ge_2 x) (Qx i_ge_2 o_ge_2 rec) = l_ge_2 rec x := by kernel_rfl
theorem k_ge_2 : Qu Tryz.prog 19 (.loop (nav Tryz.f288 [1, 0, 1, 0, 0])) c_ge_2 :=
  Qh (L := []) hT g_gd_1 t_ge_2 okP _
theorem r_gd_1 (x) : Qf T G_gd_1 [(2, c_ge_2)] Tryz.f288 C_gd_1.ps C_gd_1.rs x = C_gd_1.F x := by kernel_rfl
theorem s_gd_1 : Qb Tryz.prog 288 C_gd_1 := fnC (L := [(2, c_ge_2)]) hT g_gd_1 Tryz.f288 (okS okP (okS (okS okP (okB (okU k_ge_2))) okP)) r_gd_1
abbrev P_gf_1 : List PK := [.val Y54, .fn 241 [Y68]]
abbrev R_gf_1 : List VK := [.s (.dat .bool)]
def F_gf_1 (x : denP P_gf_1) : Option (denV R_gf_1 × denQ P_gf_1) :=
 (F_gd_1 (x.1, (x.2.1.1, ()), ())).bind fun r1 =>
 some (((leI (0 : Int) r1.1.1), ()), ())
abbrev C_gf_1 : Con := ⟨P_gf_1, R_gf_1, F_gf_1, false⟩
abbrev G_gf_1 : Env := [(288, C_gd_1)]
theorem g_gf_1 : Qe Tryz.prog G_gf_1 := (Qa s_gd_1 Qc)
theorem r_gf_1 (x) : Qf T G_gf_1 [] Tryz.f240 C_gf_1.ps C_gf_1.rs x = C_gf_1.F x := by kernel_rfl
theorem s_gf_1 : Qb Tryz.prog 240 C_gf_1 := fnC (L := []) hT g_gf_1 Tryz.f240 okP r_gf_1
abbrev P_gc : List PK := [.ptr Y57, .val Y68, .val Y54]
abbrev R_gc : List VK := [.s (.dat YI)]
def F_gc (x : denP P_gc) : Option (denV R_gc × denQ P_gc) :=
 (F_fv (x.1, x.2.1.1, x.2.1.2.1, ())).bind fun r1 =>
 if (r1.1.1 != (0 : Int)) then
  some ((r1.1.1, ()), ())
 else
  (F_ab (x.2.1.2.2.1, (0 : Int), (23 : Int), ())).bind fun r2 =>
  if (!r2.1.1) = false then
   (F_ab (x.2.1.2.2.2.1, (5 : Int), (6 : Int), ())).bind fun r3 =>
   if (!r3.1.1) = false then
    (F_ab (x.2.1.2.2.2.2.1, (5 : Int), (6 : Int), ())).bind fun r4 =>
    if (!r4.1.1) then
     some (((3 : Int), ()), ())
    else
     (F_fy (x.1, x.2.1.2.2.1, ())).bind fun r5 =>
     if (leI (0 : Int) r5.1.1) = false then
      (F_gf_1 (x.2.2.1, (x.2.1, ()), ())).bind fun r6 =>
      if r6.1.1 then
       some (((6 : Int), ()), ())
      else
       some (((0 : Int), ()), ())
     else
      some (((6 : Int), ()), ())
   else
    some (((3 : Int), ()), ())
  else
   some (((3 : Int), ()), ())
abbrev C_gc : Con := ⟨P_gc, R_gc, F_gc, false⟩
abbrev G_gc : Env := [(56, C_ab), (238, C_fv), (239, C_fy), (240, C_gf_1)]
theorem g_gc : Qe Tryz.prog G_gc := (Qa s_ab (Qa s_fv (Qa s_fy (Qa s_gf_1 Qc))))
theorem r_gc (x) : Qf T G_gc [] Tryz.f170 C_gc.ps C_gc.rs x = C_gc.F x := by kernel_rfl
theorem s_gc : Qb Tryz.prog 170 C_gc := fnC (L := []) hT g_gc Tryz.f170 okP r_gc
abbrev P_gg : List PK := [.val Y27, .val Y40]
abbrev R_gg : List VK := [.s (.dat YI)]
abbrev i_gg_2 : Shp := { slots := [(0, .s (.dat Y27)), (3, .s (.ptr 3 0)), (7, .s (.dat YI)), (8, .s (.dat YI))], boxes := [(3, [.dat YI, .dat YI])], rows := [] }
abbrev o_gg_2 : List (Ex × Shp) := [(.exit 0, { slots := [], boxes := [], rows := [] }), (.ret, { slots := [(4, .s (.dat YI))], boxes := [], rows := [] })]
def l_gg_2 (rec : i_gg_2.den → Option (denO o_gg_2)) (u2 : i_gg_2.den) : Option (denO o_gg_2) :=
 if (ltI u2.1.2.2.2.1 u2.1.2.2.1) then
  if 0 ≤ u2.1.2.2.2.1 then
   ((u2.1.1)[(u2.1.2.2.2.1).toNat]?).bind fun y3 =>
   if ((u2.2.1.1.1 == y3.1) && ((u2.2.1.1.2.1 == y3.2.1) && true)) then
    some (.inr (.inl ((u2.1.2.2.2.1, ()), ((), ()))))
   else
    let v4 := (IntKind.i64.wrap (u2.1.2.2.2.1 + (1 : Int)))
    rec ((u2.1.1, ((), (u2.1.2.2.1, (v4, ())))), ((u2.2.1.1, ()), ()))
  else none
 else
  some (.inl ((), ((), ())))
def L_gg_2 (x : i_gg_2.den) : Option (denO o_gg_2) := Qd l_gg_2 lots x
def F_gg (x : denP P_gg) : Option (denV R_gg × denQ P_gg) :=
 let v1 := ((x.1.length : Nat) : Int)
 (L_gg_2 ((x.1, ((), (v1, ((0 : Int), ())))), (((x.2.1.1, (x.2.1.2.1, ())), ()), ()))).bind fun z5 =>
 match z5 with
 | .inl x6 =>
  some (((-1 : Int), ()), ())
 | .inr z5_ =>
  match z5_ with
  | .inl x7 =>
   some ((x7.1.1, ()), ())
  | .inr z5__ =>
   none
abbrev C_gg : Con := ⟨P_gg, R_gg, F_gg, false⟩
abbrev G_gg : Env := []
theorem g_gg : Qe Tryz.prog G_gg := Qc
abbrev c_gg_2 : Cut := ⟨i_gg_2, o_gg_2, fun x => Qd l_gg_2 lots x⟩
theorem t_gg_2 (rec x) : run T G_gg [] (nav Tryz.f237 [1, 0, 1, 0, 0]) (mk 19 i_gg_2 x) (Qx i_gg_2 o_gg_2 rec) = l_gg_2 rec x := by kernel_rfl
theorem k_gg_2 : Qu Tryz.prog 19 (.loop (nav Tryz.f237 [1, 0, 1, 0, 0])) c_gg_2 :=
  Qh (L := []) hT g_gg t_gg_2 okP _
theorem r_gg (x) : Qf T G_gg [(2, c_gg_2)] Tryz.f237 C_gg.ps C_gg.rs x = C_gg.F x := by kernel_rfl
theorem s_gg : Qb Tryz.prog 237 C_gg := fnC (L := [(2, c_gg_2)]) hT g_gg Tryz.f237 (okS okP (okS (okS okP (okB (okU k_gg_2))) okP)) r_gg
abbrev P_gh : List PK := [.val Y27, .val Y40]
abbrev R_gh : List VK := [.s (.dat .bool)]
def F_gh (x : denP P_gh) : Option (denV R_gh × denQ P_gh) :=
 (F_gg (x.1, x.2.1, ())).bind fun r1 =>
 some (((leI (0 : Int) r1.1.1), ()), ())
abbrev C_gh : Con := ⟨P_gh, R_gh, F_gh, false⟩
abbrev G_gh : Env := [(237, C_gg)]
theorem g_gh : Qe Tryz.prog G_gh := (Qa s_gg Qc)
theorem r_gh (x) : Qf T G_gh [] Tryz.f168 C_gh.ps C_gh.rs x = C_gh.F x := by kernel_rfl
theorem s_gh : Qb Tryz.prog 168 C_gh := fnC (L := []) hT g_gh Tryz.f168 okP r_gh
abbrev P_gi : List PK := [.ptr Y57, .val Y40, .val Y27]
abbrev R_gi : List VK := [.s (.dat YI)]
def F_gi (x : denP P_gi) : Option (denV R_gi × denQ P_gi) :=
 (F_fv (x.1, x.2.1.1, x.2.1.2.1, ())).bind fun r1 =>
 if (r1.1.1 != (0 : Int)) then
  some ((r1.1.1, ()), ())
 else
  (F_gh (x.2.2.1, x.2.1, ())).bind fun r2 =>
  if r2.1.1 then
   some (((6 : Int), ()), ())
  else
   some (((0 : Int), ()), ())
abbrev C_gi : Con := ⟨P_gi, R_gi, F_gi, false⟩
abbrev G_gi : Env := [(168, C_gh), (238, C_fv)]
theorem g_gi : Qe Tryz.prog G_gi := (Qa s_gh (Qa s_fv Qc))
theorem r_gi (x) : Qf T G_gi [] Tryz.f171 C_gi.ps C_gi.rs x = C_gi.F x := by kernel_rfl
theorem s_gi : Qb Tryz.prog 171 C_gi := fnC (L := []) hT g_gi Tryz.f171 okP r_gi
abbrev P_gj : List PK := [.ptr Y57]
abbrev R_gj : List VK := [.s (.dat YI)]
abbrev i_gj_4 : Shp := { slots := [(0, .s (.pd Y57)), (15, .s (.dat Y27)), (16, .s (.dat YI)), (17, .s (.dat YI))], boxes := [], rows := [] }
abbrev o_gj_4 : List (Ex × Shp) := [(.exit 0, { slots := [], boxes := [], rows := [] }), (.ret, { slots := [(2, .s (.dat YI))], boxes := [], rows := [] })]
def l_gj_4 (rec : i_gj_4.den → Option (denO o_gj_4)) (u4 : i_gj_4.den) : Option (denO o_gj_4) :=
 if (ltI u4.1.2.2.2.1 u4.1.2.2.1) then
  if 0 ≤ u4.1.2.2.2.1 then
   ((u4.1.2.1)[(u4.1.2.2.2.1).toNat]?).bind fun y7 =>
   (F_fu (u4.1.1, y7.1, ())).bind fun r8 =>
   if (!r8.1.1) then
    some (.inr (.inl (((4 : Int), ()), ((), ()))))
   else
    (F_ab (y7.2.1, (1 : Int), (50 : Int), ())).bind fun r9 =>
    if (!r9.1.1) then
     some (.inr (.inl (((3 : Int), ()), ((), ()))))
    else
     let v10 := (IntKind.i64.wrap (u4.1.2.2.2.1 + (1 : Int)))
     rec ((u4.1.1, (u4.1.2.1, (u4.1.2.2.1, (v10, ())))), ((), ()))
  else none
 else
  some (.inl ((), ((), ())))
def L_gj_4 (x : i_gj_4.den) : Option (denO o_gj_4) := Qd l_gj_4 lots x
def F_gj (x : denP P_gj) : Option (denV R_gj × denQ P_gj) :=
 let v1 := ((x.1.2.2.2.1.length : Nat) : Int)
 (F_ab (v1, (1 : Int), (8 : Int), ())).bind fun r2 =>
 if (!r2.1.1) then
  some (((2 : Int), ()), ())
 else
  let v3 := ((x.1.2.2.2.1.length : Nat) : Int)
  (L_gj_4 ((x.1, (x.1.2.2.2.1, (v3, ((0 : Int), ())))), ((), ()))).bind fun z11 =>
  match z11 with
  | .inl x12 =>
   some (((0 : Int), ()), ())
  | .inr z11_ =>
   match z11_ with
   | .inl x13 =>
    some ((x13.1.1, ()), ())
   | .inr z11__ =>
    none
abbrev C_gj : Con := ⟨P_gj, R_gj, F_gj, false⟩
abbrev G_gj : Env := [(56, C_ab), (81, C_fu)]
theorem g_gj : Qe Tryz.prog G_gj := (Qa s_ab (Qa s_fu Qc))
abbrev c_gj_4 : Cut := ⟨i_gj_4, o_gj_4, fun x => Qd l_gj_4 lots x⟩
theorem t_gj_4 (rec x) : run T G_gj [] (nav Tryz.f172 [1, 1, 0, 1, 0, 0]) (mk 33 i_gj_4 x) (Qx i_gj_4 o_gj_4 rec) = l_gj_4 rec x := by kernel_rfl
theorem k_gj_4 : Qu Tryz.prog 33 (.loop (nav Tryz.f172 [1, 1, 0, 1, 0, 0])) c_gj_4 :=
  Qh (L := []) hT g_gj t_gj_4 okP _
theorem r_gj (x) : Qf T G_gj [(4, c_gj_4)] Tryz.f172 C_gj.ps C_gj.rs x = C_gj.F x := by kernel_rfl
theorem s_gj : Qb Tryz.prog 172 C_gj := fnC (L := [(4, c_gj_4)]) hT g_gj Tryz.f172 (okS okP (okS okP (okS (okS okP (okB (okU k_gj_4))) okP))) r_gj
abbrev P_gk : List PK := [.val Y57]
abbrev R_gk : List VK := [.s (.dat YI)]
abbrev i_gk_14 : Shp := { slots := [(1, .s (.ptr 1 0)), (43, .s (.dat Y27)), (44, .s (.dat YI)), (45, .s (.dat YI))], boxes := [(1, [.dat Y53, .dat Y54, .dat Y27, .dat Y27])], rows := [] }
abbrev o_gk_14 : List (Ex × Shp) := [(.exit 2, { slots := [(1, .s (.ptr 1 0))], boxes := [(1, [.dat Y53, .dat Y54, .dat Y27, .dat Y27])], rows := [] }), (.ret, { slots := [(2, .s (.dat YI))], boxes := [], rows := [] })]
def l_gk_14 (rec : i_gk_14.den → Option (denO o_gk_14)) (u14 : i_gk_14.den) : Option (denO o_gk_14) :=
 if (ltI u14.1.2.2.2.1 u14.1.2.2.1) then
  if 0 ≤ u14.1.2.2.2.1 then
   ((u14.1.2.1)[(u14.1.2.2.2.1).toNat]?).bind fun y16 =>
   if 0 ≤ (0 : Int) ∧ (0 : Int) ≤ u14.1.2.2.2.1 ∧ u14.1.2.2.2.1 ≤ ((u14.2.1.1.2.2.1.length : Nat) : Int) then
    let v17 := ((u14.2.1.1.2.2.1.drop ((0 : Int)).toNat).take ((u14.1.2.2.2.1).toNat - ((0 : Int)).toNat))
    (F_gi (u14.2.1.1, y16, v17, ())).bind fun r18 =>
    if (r18.1.1 != (0 : Int)) then
     some (.inr (.inl ((r18.1.1, ()), ((), ()))))
    else
     let v19 := (IntKind.i64.wrap (u14.1.2.2.2.1 + (1 : Int)))
     rec (((), (u14.1.2.1, (u14.1.2.2.1, (v19, ())))), ((u14.2.1.1, ()), ()))
   else none
  else none
 else
  some (.inl (((), ()), ((u14.2.1.1, ()), ())))
def L_gk_14 (x : i_gk_14.den) : Option (denO o_gk_14) := Qd l_gk_14 lots x
abbrev i_gk_7 : Shp := { slots := [(1, .s (.ptr 1 0)), (25, .s (.dat Y54)), (26, .s (.dat YI)), (27, .s (.dat YI))], boxes := [(1, [.dat Y53, .dat Y54, .dat Y27, .dat Y27])], rows := [] }
abbrev o_gk_7 : List (Ex × Shp) := [(.exit 0, { slots := [(1, .s (.ptr 1 0))], boxes := [(1, [.dat Y53, .dat Y54, .dat Y27, .dat Y27])], rows := [] }), (.ret, { slots := [(2, .s (.dat YI))], boxes := [], rows := [] })]
def l_gk_7 (rec : i_gk_7.den → Option (denO o_gk_7)) (u7 : i_gk_7.den) : Option (denO o_gk_7) :=
 if (ltI u7.1.2.2.2.1 u7.1.2.2.1) then
  if 0 ≤ u7.1.2.2.2.1 then
   ((u7.1.2.1)[(u7.1.2.2.2.1).toNat]?).bind fun y7 =>
   if 0 ≤ (0 : Int) ∧ (0 : Int) ≤ u7.1.2.2.2.1 ∧ u7.1.2.2.2.1 ≤ ((u7.2.1.1.2.1.length : Nat) : Int) then
    let v8 := ((u7.2.1.1.2.1.drop ((0 : Int)).toNat).take ((u7.1.2.2.2.1).toNat - ((0 : Int)).toNat))
    (F_gc (u7.2.1.1, y7, v8, ())).bind fun r9 =>
    if (r9.1.1 != (0 : Int)) then
     some (.inr (.inl ((r9.1.1, ()), ((), ()))))
    else
     let v10 := (IntKind.i64.wrap (u7.1.2.2.2.1 + (1 : Int)))
     rec (((), (u7.1.2.1, (u7.1.2.2.1, (v10, ())))), ((u7.2.1.1, ()), ()))
   else none
  else none
 else
  some (.inl (((), ()), ((u7.2.1.1, ()), ())))
def L_gk_7 (x : i_gk_7.den) : Option (denO o_gk_7) := Qd l_gk_7 lots x
def F_gk (x : denP P_gk) : Option (denV R_gk × denQ P_gk) :=
 (F_ft (x.1, ())).bind fun r1 =>
 if (r1.1.1 != (0 : Int)) then
  some ((r1.1.1, ()), ())
 else
  let v2 := ((x.1.2.1.length : Nat) : Int)
  if (ltI (4 : Int) v2) = false then
   let v3 := ((x.1.2.2.1.length : Nat) : Int)
   if (ltI (4 : Int) v3) then
    some (((2 : Int), ()), ())
   else
    let v4 := ((x.1.2.1.length : Nat) : Int)
    (L_gk_7 (((), (x.1.2.1, (v4, ((0 : Int), ())))), (((x.1.1, (x.1.2.1, (x.1.2.2.1, (x.1.2.2.2.1, ())))), ()), ()))).bind fun z11 =>
    match z11 with
    | .inl x12 =>
     let v13 := ((x12.2.1.1.2.2.1.length : Nat) : Int)
     (L_gk_14 (((), (x12.2.1.1.2.2.1, (v13, ((0 : Int), ())))), ((x12.2.1.1, ()), ()))).bind fun z20 =>
     match z20 with
     | .inl x21 =>
      (F_gj (x21.2.1.1, ())).bind fun r22 =>
      some ((r22.1.1, ()), ())
     | .inr z20_ =>
      match z20_ with
      | .inl x23 =>
       some ((x23.1.1, ()), ())
      | .inr z20__ =>
       none
    | .inr z11_ =>
     match z11_ with
     | .inl x24 =>
      some ((x24.1.1, ()), ())
     | .inr z11__ =>
      none
  else
   some (((2 : Int), ()), ())
abbrev C_gk : Con := ⟨P_gk, R_gk, F_gk, false⟩
abbrev G_gk : Env := [(169, C_ft), (170, C_gc), (171, C_gi), (172, C_gj)]
theorem g_gk : Qe Tryz.prog G_gk := (Qa s_ft (Qa s_gc (Qa s_gi (Qa s_gj Qc))))
abbrev c_gk_14 : Cut := ⟨i_gk_14, o_gk_14, fun x => Qd l_gk_14 lots x⟩
theorem t_gk_14 (rec x) : run T G_gk [] (nav Tryz.f78 [1, 1, 1, 1, 0, 1, 0, 0]) (mk 61 i_gk_14 x) (Qx i_gk_14 o_gk_14 rec) = l_gk_14 rec x := by kernel_rfl
theorem k_gk_14 : Qu Tryz.prog 61 (.loop (nav Tryz.f78 [1, 1, 1, 1, 0, 1, 0, 0])) c_gk_14 :=
  Qh (L := []) hT g_gk t_gk_14 okP _
abbrev c_gk_7 : Cut := ⟨i_gk_7, o_gk_7, fun x => Qd l_gk_7 lots x⟩
theorem t_gk_7 (rec x) : run T G_gk [] (nav Tryz.f78 [1, 1, 1, 0, 1, 0, 0]) (mk 61 i_gk_7 x) (Qx i_gk_7 o_gk_7 rec) = l_gk_7 rec x := by kernel_rfl
theorem k_gk_7 : Qu Tryz.prog 61 (.loop (nav Tryz.f78 [1, 1, 1, 0, 1, 0, 0])) c_gk_7 :=
  Qh (L := []) hT g_gk t_gk_7 okP _
theorem r_gk (x) : Qf T G_gk [(14, c_gk_14), (7, c_gk_7)] Tryz.f78 C_gk.ps C_gk.rs x = C_gk.F x := by kernel_rfl
theorem s_gk : Qb Tryz.prog 78 C_gk := fnC (L := [(14, c_gk_14), (7, c_gk_7)]) hT g_gk Tryz.f78 (okS okP (okS okP (okS okP (okS (okS okP (okB (okU k_gk_7))) (okS (okS okP (okB (okU k_gk_14))) okP))))) r_gk
abbrev P_ac : List PK := [.val YI]
abbrev R_ac : List VK := [.s (.dat .bool)]
def F_ac (x : denP P_ac) : Option (denV R_ac × denQ P_ac) :=
 (F_ab (x.1, (0 : Int), (4294967295 : Int), ())).bind fun r1 =>
 some ((r1.1.1, ()), ())
abbrev C_ac : Con := ⟨P_ac, R_ac, F_ac, false⟩
abbrev G_ac : Env := [(56, C_ab)]
theorem g_ac : Qe Tryz.prog G_ac := (Qa s_ab Qc)
theorem r_ac (x) : Qf T G_ac [] Tryz.f63 C_ac.ps C_ac.rs x = C_ac.F x := by kernel_rfl
theorem s_ac : Qb Tryz.prog 63 C_ac := fnC (L := []) hT g_ac Tryz.f63 okP r_ac
abbrev P_ad_1 : List PK := [.val YI]
abbrev R_ad_1 : List VK := [.s (.dat .bool)]
def F_ad_1 (x : denP P_ad_1) : Option (denV R_ad_1 × denQ P_ad_1) :=
 (F_ac (x.1, ())).bind fun r1 =>
 some (((!r1.1.1), ()), ())
abbrev C_ad_1 : Con := ⟨P_ad_1, R_ad_1, F_ad_1, false⟩
abbrev G_ad_1 : Env := [(63, C_ac)]
theorem g_ad_1 : Qe Tryz.prog G_ad_1 := (Qa s_ac Qc)
theorem r_ad_1 (x) : Qf T G_ad_1 [] Tryz.f153 C_ad_1.ps C_ad_1.rs x = C_ad_1.F x := by kernel_rfl
theorem s_ad_1 : Qb Tryz.prog 153 C_ad_1 := fnC (L := []) hT g_ad_1 Tryz.f153 okP r_ad_1
abbrev P_ae_1 : List PK := [.val Y24, .fn 153 []]
abbrev R_ae_1 : List VK := [.s (.dat YI)]
abbrev i_af_2 : Shp := { slots := [(0, .s (.dat Y24)), (1, .s (.fn 153 [])), (7, .s (.dat YI)), (8, .s (.dat YI))], boxes := [], rows := [] }
abbrev o_af_2 : List (Ex × Shp) := [(.exit 0, { slots := [], boxes := [], rows := [] }), (.ret, { slots := [(4, .s (.dat YI))], boxes := [], rows := [] })]
def l_af_2 (rec : i_af_2.den → Option (denO o_af_2)) (u2 : i_af_2.den) : Option (denO o_af_2) :=
 if (ltI u2.1.2.2.2.1 u2.1.2.2.1) then
  if 0 ≤ u2.1.2.2.2.1 then
   ((u2.1.1)[(u2.1.2.2.2.1).toNat]?).bind fun y4 =>
   (F_ad_1 (y4, ())).bind fun r5 =>
   if r5.1.1 then
    some (.inr (.inl ((u2.1.2.2.2.1, ()), ((), ()))))
   else
    let v6 := (IntKind.i64.wrap (u2.1.2.2.2.1 + (1 : Int)))
    rec ((u2.1.1, ((), (u2.1.2.2.1, (v6, ())))), ((), ()))
  else none
 else
  some (.inl ((), ((), ())))
def L_af_2 (x : i_af_2.den) : Option (denO o_af_2) := Qd l_af_2 lots x
def F_ae_1 (x : denP P_ae_1) : Option (denV R_ae_1 × denQ P_ae_1) :=
 let v1 := ((x.1.length : Nat) : Int)
 (L_af_2 ((x.1, ((), (v1, ((0 : Int), ())))), ((), ()))).bind fun z7 =>
 match z7 with
 | .inl x8 =>
  some (((-1 : Int), ()), ())
 | .inr z7_ =>
  match z7_ with
  | .inl x9 =>
   some ((x9.1.1, ()), ())
  | .inr z7__ =>
   none
abbrev C_ae_1 : Con := ⟨P_ae_1, R_ae_1, F_ae_1, false⟩
abbrev G_ae_1 : Env := [(153, C_ad_1)]
theorem g_ae_1 : Qe Tryz.prog G_ae_1 := (Qa s_ad_1 Qc)
abbrev c_af_2 : Cut := ⟨i_af_2, o_af_2, fun x => Qd l_af_2 lots x⟩
theorem t_af_2 (rec x) : run T G_ae_1 [] (nav Tryz.f230 [1, 0, 1, 0, 0]) (mk 19 i_af_2 x) (Qx i_af_2 o_af_2 rec) = l_af_2 rec x := by kernel_rfl
theorem k_af_2 : Qu Tryz.prog 19 (.loop (nav Tryz.f230 [1, 0, 1, 0, 0])) c_af_2 :=
  Qh (L := []) hT g_ae_1 t_af_2 okP _
theorem r_ae_1 (x) : Qf T G_ae_1 [(2, c_af_2)] Tryz.f230 C_ae_1.ps C_ae_1.rs x = C_ae_1.F x := by kernel_rfl
theorem s_ae_1 : Qb Tryz.prog 230 C_ae_1 := fnC (L := [(2, c_af_2)]) hT g_ae_1 Tryz.f230 (okS okP (okS (okS okP (okB (okU k_af_2))) okP)) r_ae_1
abbrev P_ag_1 : List PK := [.val Y24, .fn 153 []]
abbrev R_ag_1 : List VK := [.s (.dat .bool)]
def F_ag_1 (x : denP P_ag_1) : Option (denV R_ag_1 × denQ P_ag_1) :=
 (F_ae_1 (x.1, (), ())).bind fun r1 =>
 some (((leI (0 : Int) r1.1.1), ()), ())
abbrev C_ag_1 : Con := ⟨P_ag_1, R_ag_1, F_ag_1, false⟩
abbrev G_ag_1 : Env := [(230, C_ae_1)]
theorem g_ag_1 : Qe Tryz.prog G_ag_1 := (Qa s_ae_1 Qc)
theorem r_ag_1 (x) : Qf T G_ag_1 [] Tryz.f152 C_ag_1.ps C_ag_1.rs x = C_ag_1.F x := by kernel_rfl
theorem s_ag_1 : Qb Tryz.prog 152 C_ag_1 := fnC (L := []) hT g_ag_1 Tryz.f152 okP r_ag_1
abbrev P_ad : List PK := [.val Y24]
abbrev R_ad : List VK := [.s (.dat .bool)]
def F_ad (x : denP P_ad) : Option (denV R_ad × denQ P_ad) :=
 (F_ag_1 (x.1, (), ())).bind fun r1 =>
 some (((!r1.1.1), ()), ())
abbrev C_ad : Con := ⟨P_ad, R_ad, F_ad, false⟩
abbrev G_ad : Env := [(152, C_ag_1)]
theorem g_ad : Qe Tryz.prog G_ad := (Qa s_ag_1 Qc)
theorem r_ad (x) : Qf T G_ad [] Tryz.f62 C_ad.ps C_ad.rs x = C_ad.F x := by kernel_rfl
theorem s_ad : Qb Tryz.prog 62 C_ad := fnC (L := []) hT g_ad Tryz.f62 okP r_ad
abbrev P_ak : List PK := [.val Y24]
abbrev R_ak : List VK := [.s (.dat YI)]
def F_ak (x : denP P_ak) : Option (denV R_ak × denQ P_ak) :=
 let v1 := ((x.1.length : Nat) : Int)
 if (v1 == (0 : Int)) = false then
  let v2 := ((x.1.length : Nat) : Int)
  if (ltI (192 : Int) v2) = false then
   let v3 := ((x.1.length : Nat) : Int)
   let v4 := ((v3).tmod (8 : Int))
   if (v4 != (0 : Int)) then
    some (((1 : Int), ()), ())
   else
    (F_ad (x.1, ())).bind fun r5 =>
    if (!r5.1.1) then
     some (((3 : Int), ()), ())
    else
     some (((0 : Int), ()), ())
  else
   some (((1 : Int), ()), ())
 else
  some (((1 : Int), ()), ())
abbrev C_ak : Con := ⟨P_ak, R_ak, F_ak, false⟩
abbrev G_ak : Env := [(62, C_ad)]
theorem g_ak : Qe Tryz.prog G_ak := (Qa s_ad Qc)
theorem r_ak (x) : Qf T G_ak [] Tryz.f21 C_ak.ps C_ak.rs x = C_ak.F x := by kernel_rfl
theorem s_ak : Qb Tryz.prog 21 C_ak := fnC (L := []) hT g_ak Tryz.f21 okP r_ak
abbrev P_gl : List PK := [.val Y24]
abbrev R_gl : List VK := [.s (.dat .bool)]
def F_gl (x : denP P_gl) : Option (denV R_gl × denQ P_gl) :=
 (F_ak (x.1, ())).bind fun r1 =>
 if (r1.1.1 == (0 : Int)) = true then
  let v2 := ((x.1.length : Nat) : Int)
  some (((v2 == (192 : Int)), ()), ())
 else
  some ((false, ()), ())
abbrev C_gl : Con := ⟨P_gl, R_gl, F_gl, false⟩
abbrev G_gl : Env := [(21, C_ak)]
theorem g_gl : Qe Tryz.prog G_gl := (Qa s_ak Qc)
theorem r_gl (x) : Qf T G_gl [] Tryz.f79 C_gl.ps C_gl.rs x = C_gl.F x := by kernel_rfl
theorem s_gl : Qb Tryz.prog 79 C_gl := fnC (L := []) hT g_gl Tryz.f79 okP r_gl
abbrev P_ah : List PK := [.val Y25]
abbrev R_ah : List VK := [.s (.dat YI)]
def F_ah (x : denP P_ah) : Option (denV R_ah × denQ P_ah) :=
 let v1 := ((x.1.1.length : Nat) : Int)
 if (v1 != (16 : Int)) = false then
  let v2 := ((x.1.2.2.1.length : Nat) : Int)
  if (v2 != (11 : Int)) = false then
   ((x.1.1)[((0 : Int)).toNat]?).bind fun y3 =>
   if (y3 != (0 : Int)) then
    some (((1 : Int), ()), ())
   else
    (F_ad (x.1.1, ())).bind fun r4 =>
    if (!r4.1.1) = false then
     (F_ac (x.1.2.1, ())).bind fun r5 =>
     if (!r5.1.1) = false then
      (F_ad (x.1.2.2.1, ())).bind fun r6 =>
      if (!r6.1.1) = false then
       (F_ad (x.1.2.2.2.2.2.2.2.1, ())).bind fun r7 =>
       if (!r7.1.1) = false then
        (F_ad (x.1.2.2.2.2.2.2.2.2.1, ())).bind fun r8 =>
        if (!r8.1.1) then
         some (((3 : Int), ()), ())
        else
         let v9 := ((x.1.2.2.2.2.2.2.2.1.length : Nat) : Int)
         if (ltI (40 : Int) v9) = false then
          let v10 := ((x.1.2.2.2.2.2.2.2.2.1.length : Nat) : Int)
          if (ltI (40 : Int) v10) then
           some (((2 : Int), ()), ())
          else
           (F_ab (x.1.2.2.2.2.2.2.1, (0 : Int), (1000000000 : Int), ())).bind fun r11 =>
           if (!r11.1.1) then
            some (((3 : Int), ()), ())
           else
            ((x.1.2.2.1)[((0 : Int)).toNat]?).bind fun y12 =>
            if (ltI (3 : Int) y12) = false then
             ((x.1.2.2.1)[((7 : Int)).toNat]?).bind fun y13 =>
             if (ltI (7 : Int) y13) = false then
              ((x.1.2.2.1)[((10 : Int)).toNat]?).bind fun y14 =>
              if (ltI (8 : Int) y14) = false then
               ((x.1.2.2.1)[((6 : Int)).toNat]?).bind fun y15 =>
               if (y15 != (0 : Int)) = false then
                ((x.1.2.2.1)[((8 : Int)).toNat]?).bind fun y16 =>
                if (y16 != (0 : Int)) then
                 some (((1 : Int), ()), ())
                else
                 some (((0 : Int), ()), ())
               else
                some (((1 : Int), ()), ())
              else
               some (((1 : Int), ()), ())
             else
              some (((1 : Int), ()), ())
            else
             some (((1 : Int), ()), ())
         else
          some (((2 : Int), ()), ())
       else
        some (((3 : Int), ()), ())
      else
       some (((3 : Int), ()), ())
     else
      some (((3 : Int), ()), ())
    else
     some (((3 : Int), ()), ())
  else
   some (((1 : Int), ()), ())
 else
  some (((1 : Int), ()), ())
abbrev C_ah : Con := ⟨P_ah, R_ah, F_ah, false⟩
abbrev G_ah : Env := [(56, C_ab), (62, C_ad), (63, C_ac)]
theorem g_ah : Qe Tryz.prog G_ah := (Qa s_ab (Qa s_ad (Qa s_ac Qc)))
theorem r_ah (x) : Qf T G_ah [] Tryz.f20 C_ah.ps C_ah.rs x = C_ah.F x := by kernel_rfl
theorem s_ah : Qb Tryz.prog 20 C_ah := fnC (L := []) hT g_ah Tryz.f20 okP r_ah
abbrev P_gm : List PK := [.ptr Y57, .val YI]
abbrev R_gm : List VK := [.s (.dat YI)]
abbrev i_gm_3 : Shp := { slots := [(1, .s (.dat YI)), (5, .s (.dat YI)), (11, .s (.dat Y27)), (12, .s (.dat YI)), (13, .s (.dat YI))], boxes := [], rows := [] }
abbrev o_gm_3 : List (Ex × Shp) := [(.exit 0, { slots := [(5, .s (.dat YI))], boxes := [], rows := [] })]
def l_gm_3 (rec : i_gm_3.den → Option (denO o_gm_3)) (u3 : i_gm_3.den) : Option (denO o_gm_3) :=
 if (ltI u3.1.2.2.2.2.1 u3.1.2.2.2.1) then
  if 0 ≤ u3.1.2.2.2.2.1 then
   ((u3.1.2.2.1)[(u3.1.2.2.2.2.1).toNat]?).bind fun y3 =>
   if (ltI u3.1.1 (0 : Int)) = false then
    if (y3.1 == u3.1.1) then
     let v4 := (IntKind.i64.wrap (u3.1.2.1 + y3.2.1))
     let v5 := (IntKind.i64.wrap (u3.1.2.2.2.2.1 + (1 : Int)))
     rec ((u3.1.1, (v4, (u3.1.2.2.1, (u3.1.2.2.2.1, (v5, ()))))), ((), ()))
    else
     let v6 := (IntKind.i64.wrap (u3.1.2.2.2.2.1 + (1 : Int)))
     rec ((u3.1.1, (u3.1.2.1, (u3.1.2.2.1, (u3.1.2.2.2.1, (v6, ()))))), ((), ()))
   else
    let v7 := (IntKind.i64.wrap (u3.1.2.1 + y3.2.1))
    let v8 := (IntKind.i64.wrap (u3.1.2.2.2.2.1 + (1 : Int)))
    rec ((u3.1.1, (v7, (u3.1.2.2.1, (u3.1.2.2.2.1, (v8, ()))))), ((), ()))
  else none
 else
  some (.inl ((u3.1.2.1, ()), ((), ())))
def L_gm_3 (x : i_gm_3.den) : Option (denO o_gm_3) := Qd l_gm_3 lots x
def F_gm (x : denP P_gm) : Option (denV R_gm × denQ P_gm) :=
 let v1 := ((x.1.2.2.2.1.length : Nat) : Int)
 (L_gm_3 ((x.2.1, ((0 : Int), (x.1.2.2.2.1, (v1, ((0 : Int), ()))))), ((), ()))).bind fun z9 =>
 match z9 with
 | .inl x10 =>
  some ((x10.1.1, ()), ())
 | .inr z9_ =>
  none
abbrev C_gm : Con := ⟨P_gm, R_gm, F_gm, false⟩
abbrev G_gm : Env := []
theorem g_gm : Qe Tryz.prog G_gm := Qc
abbrev c_gm_3 : Cut := ⟨i_gm_3, o_gm_3, fun x => Qd l_gm_3 lots x⟩
theorem t_gm_3 (rec x) : run T G_gm [] (nav Tryz.f236 [1, 1, 0, 1, 0, 0]) (mk 31 i_gm_3 x) (Qx i_gm_3 o_gm_3 rec) = l_gm_3 rec x := by kernel_rfl
theorem k_gm_3 : Qu Tryz.prog 31 (.loop (nav Tryz.f236 [1, 1, 0, 1, 0, 0])) c_gm_3 :=
  Qh (L := []) hT g_gm t_gm_3 okP _
theorem r_gm (x) : Qf T G_gm [(3, c_gm_3)] Tryz.f236 C_gm.ps C_gm.rs x = C_gm.F x := by kernel_rfl
theorem s_gm : Qb Tryz.prog 236 C_gm := fnC (L := [(3, c_gm_3)]) hT g_gm Tryz.f236 (okS okP (okS okP (okS (okS okP (okB (okU k_gm_3))) okP))) r_gm
abbrev P_gn : List PK := [.ptr Y57, .val YI]
abbrev R_gn : List VK := [.s (.dat YI), .s (.dat YI)]
abbrev i_gn_3 : Shp := { slots := [(0, .s (.pd Y57)), (1, .s (.dat YI)), (6, .s (.dat YI))], boxes := [], rows := [] }
abbrev o_gn_3 : List (Ex × Shp) := [(.exit 0, { slots := [(0, .s (.pd Y57)), (1, .s (.dat YI)), (6, .s (.dat YI))], boxes := [], rows := [] })]
def l_gn_3 (rec : i_gn_3.den → Option (denO o_gn_3)) (u3 : i_gn_3.den) : Option (denO o_gn_3) :=
 if 0 ≤ u3.1.2.2.1 then
  ((u3.1.1.2.2.2.1)[(u3.1.2.2.1).toNat]?).bind fun y5 =>
  if (leI y5.2.1 u3.1.2.1) then
   if 0 ≤ u3.1.2.2.1 then
    ((u3.1.1.2.2.2.1)[(u3.1.2.2.1).toNat]?).bind fun y6 =>
    let v7 := (IntKind.i64.wrap (u3.1.2.1 - y6.2.1))
    let v8 := (IntKind.i64.wrap (u3.1.2.2.1 + (1 : Int)))
    rec ((u3.1.1, (v7, (v8, ()))), ((), ()))
   else none
  else
   some (.inl ((u3.1.1, (u3.1.2.1, (u3.1.2.2.1, ()))), ((), ())))
 else none
def L_gn_3 (x : i_gn_3.den) : Option (denO o_gn_3) := Qd l_gn_3 lots x
def F_gn (x : denP P_gn) : Option (denV R_gn × denQ P_gn) :=
 (F_gm (x.1, (-1 : Int), ())).bind fun r1 =>
 if r1.1.1 = 0 then none else
 let v2 := ((x.2.1).tmod r1.1.1)
 (L_gn_3 ((x.1, (v2, ((0 : Int), ()))), ((), ()))).bind fun z9 =>
 match z9 with
 | .inl x10 =>
  if 0 ≤ x10.1.2.2.1 then
   ((x10.1.1.2.2.2.1)[(x10.1.2.2.1).toNat]?).bind fun y11 =>
   let v12 := (IntKind.i64.wrap (y11.2.1 - x10.1.2.1))
   some ((x10.1.2.2.1, v12, ()), ())
  else none
 | .inr z9_ =>
  none
abbrev C_gn : Con := ⟨P_gn, R_gn, F_gn, false⟩
abbrev G_gn : Env := [(236, C_gm)]
theorem g_gn : Qe Tryz.prog G_gn := (Qa s_gm Qc)
abbrev c_gn_3 : Cut := ⟨i_gn_3, o_gn_3, fun x => Qd l_gn_3 lots x⟩
theorem t_gn_3 (rec x) : run T G_gn [] (nav Tryz.f166 [1, 1, 1, 0, 0, 0]) (mk 44 i_gn_3 x) (Qx i_gn_3 o_gn_3 rec) = l_gn_3 rec x := by kernel_rfl
theorem k_gn_3 : Qu Tryz.prog 44 (.loop (nav Tryz.f166 [1, 1, 1, 0, 0, 0])) c_gn_3 :=
  Qh (L := []) hT g_gn t_gn_3 okP _
theorem r_gn (x) : Qf T G_gn [(3, c_gn_3)] Tryz.f166 C_gn.ps C_gn.rs x = C_gn.F x := by kernel_rfl
theorem s_gn : Qb Tryz.prog 166 C_gn := fnC (L := [(3, c_gn_3)]) hT g_gn Tryz.f166 (okS okP (okS okP (okS okP (okS (okB (okU k_gn_3)) okP)))) r_gn
end Go.Proofs.YtajnommlfjfgpaaGreatDoor
