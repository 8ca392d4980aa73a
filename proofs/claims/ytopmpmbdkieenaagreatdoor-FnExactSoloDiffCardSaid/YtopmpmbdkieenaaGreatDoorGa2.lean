/- The functions of the laws, each as a plain function of data (F), and that the program's text does what F says. Printed by a program (wip/tools/gen.py). -/
import Derived.Test.YtopmpmbdkieenaaGreatDoorGa1
namespace Go.Proofs.YtopmpmbdkieenaaGreatDoor
open Go Go.RowKit S Go.Proofs
set_option maxRecDepth 100000
set_option linter.unusedVariables false
abbrev R_bs : List VK := [.g [.dat YI, .own 139 Y76]]
abbrev i_bs_5 : Shp := { slots := [(0, .s (.dat Y28)), (2, .s (.ptr 2 0)), (3, .s (.ptr 3 0)), (4, .s (.dat YI))], boxes := [(2, [.dat YI, .own 139 Y76]), (3, [.dat YI, .own 139 Y76])], rows := [] }
abbrev o_bs_5 : List (Ex × Shp) := [(.exit 0, { slots := [(2, .s (.ptr 2 0)), (3, .s (.ptr 3 0))], boxes := [(2, [.dat YI, .own 139 Y76]), (3, [.dat YI, .own 139 Y76])], rows := [] }), (.ret, { slots := [(2, .s (.ptr 2 0))], boxes := [(2, [.dat YI, .own 139 Y76])], rows := [] })]
def l_bs_5 (rec : i_bs_5.den → Option (denO o_bs_5)) (u : i_bs_5.den) : Option (denO o_bs_5) :=
 let v6 := ((u.1.1.length : Nat) : Int)
 if (ltI u.1.2.2.2.1 v6) then
  if 0 ≤ u.1.2.2.2.1 then
   ((u.1.1)[(u.1.2.2.2.1).toNat]?).bind fun y7 =>
   (F_aa (y7, (0 : Int), (4294967295 : Int), ())).bind fun r8 =>
   if (!r8.1.1) then
    some (.inr (.inl (((), ()), ((((3 : Int), (([] : List (den Y76)), ())), ()), ()))))
   else
    if 0 ≤ u.1.2.2.2.1 then
     ((u.1.1)[(u.1.2.2.2.1).toNat]?).bind fun y9 =>
     (F_br (y9, ())).bind fun r10 =>
     if (u.2.1.2.1.2.1.length + [r10.1.1].length) * 16 ≤ 140737488355328 then
      let v11 := (u.2.1.2.1.2.1 ++ [r10.1.1])
      let v12 := (IntKind.i64.wrap (u.1.2.2.2.1 + (1 : Int)))
      rec ((u.1.1, ((), ((), (v12, ())))), ((u.2.1.1, ((u.2.1.2.1.1, (v11, ())), ())), ()))
     else none
    else none
  else none
 else
  some (.inl (((), ((), ())), ((u.2.1.1, (u.2.1.2.1, ())), ())))
def L_bs_5 (x : i_bs_5.den) : Option (denO o_bs_5) := Qc l_bs_5 lots x
def F_bs (x : denP P_l) : FO P_l R_bs :=
 let v1 := ((x.1.length : Nat) : Int)
 if (v1 != (8 : Int)) then
  some ((((1 : Int), (([] : List (den Y76)), ())), ()), ())
 else
  (L_bs_5 ((x.1, ((), ((), ((0 : Int), ())))), ((((0 : Int), (([] : List (den Y76)), ())), (((0 : Int), (([] : List (den Y76)), ())), ())), ()))).bind fun z13 =>
  match z13 with
  | .inl x14 =>
   some ((x14.2.1.2.1, ()), ())
  | .inr z13_ =>
   match z13_ with
   | .inl x15 =>
    some ((x15.2.1.1, ()), ())
   | .inr z13__ =>
    none
abbrev C_bs : Con := ⟨P_l, R_bs, F_bs, false⟩
abbrev G_bs : Env := [(59, C_aa), (212, C_br)]
theorem g_bs : Qe Tryz.prog G_bs := (Qa s_aa (Qa s_br Qd))
abbrev c_bs_5 : Cut := ⟨i_bs_5, o_bs_5, fun x => Qc l_bs_5 lots x⟩
theorem k_bs_5 : Qo Tryz.prog 34 (.loop (nav Tryz.f179 [1, 1, 1, 0, 1, 0, 0])) c_bs_5 :=
  Qf (L := []) hT g_bs (fun _ _ => by kernel_rfl) okP _
theorem r_bs (x) : Qv T G_bs [(5, c_bs_5)] Tryz.f179 C_bs.ps C_bs.rs x = C_bs.F x := by kernel_rfl
theorem s_bs : Qb Tryz.prog 179 C_bs := fnC (L := [(5, c_bs_5)]) hT g_bs Tryz.f179 (okS okP (okS okP (okS okP (okS (okS okP (okB (okU k_bs_5))) okP)))) r_bs
abbrev P_bt : List PK := [.ptr Y130]
abbrev R_bt : List VK := [.s (.own 139 Y76), .s (.dat .bool)]
abbrev i_bt_5 : Shp := { slots := [(5, .s (.own 139 Y76)), (6, .s (.dat YI))], boxes := [], rows := [] }
abbrev o_bt_5 : List (Ex × Shp) := [(.exit 0, { slots := [(5, .s (.own 139 Y76))], boxes := [], rows := [] })]
def l_bt_5 (rec : i_bt_5.den → Option (denO o_bt_5)) (u : i_bt_5.den) : Option (denO o_bt_5) :=
 if (ltI u.1.2.1 (8 : Int)) then
  if (u.1.1.length + [(u.1.2.1, ((7 : Int), ()))].length) * 16 ≤ 140737488355328 then
   let v2 := (u.1.1 ++ [(u.1.2.1, ((7 : Int), ()))])
   let v3 := (IntKind.i64.wrap (u.1.2.1 + (1 : Int)))
   rec ((v2, (v3, ())), ((), ()))
  else none
 else
  some (.inl ((u.1.1, ()), ((), ())))
def L_bt_5 (x : i_bt_5.den) : Option (denO o_bt_5) := Qc l_bt_5 lots x
def F_bt (x : denP P_bt) : FO P_bt R_bt :=
 ((x.1.2.2.2.1.2.2.1)[((10 : Int)).toNat]?).bind fun y1 =>
 if (y1 == (0 : Int)) then
  (L_bt_5 ((([] : List (den Y76)), ((0 : Int), ())), ((), ()))).bind fun z4 =>
  match z4 with
  | .inl x5 =>
   some ((x5.1.1, true, ()), ())
  | .inr z4_ =>
   none
 else
  let v6 := (IntKind.i64.wrap (y1 - (1 : Int)))
  let v7 := (IntKind.i64.wrap (v6 * (8 : Int)))
  (F_bp (x.1.1, v7, (1 : Int), ())).bind fun r8 =>
  if (y1 == (8 : Int)) = false then
   if (ltI r8.1.1 (0 : Int)) then
    some ((([] : List (den Y76)), false, ()), ())
   else
    let v9 := (IntKind.i64.wrap (r8.1.1 + (8 : Int)))
    if 0 ≤ r8.1.1 ∧ r8.1.1 ≤ v9 ∧ v9 ≤ ((x.1.2.1.length : Nat) : Int) then
     let v10 := ((x.1.2.1.drop (r8.1.1).toNat).take ((v9).toNat - (r8.1.1).toNat))
     (F_bs (v10, ())).bind fun r11 =>
     some ((r11.1.1.2.1, true, ()), ())
    else none
  else
   some ((([] : List (den Y76)), false, ()), ())
abbrev C_bt : Con := ⟨P_bt, R_bt, F_bt, false⟩
abbrev G_bt : Env := [(152, C_bp), (179, C_bs)]
theorem g_bt : Qe Tryz.prog G_bt := (Qa s_bp (Qa s_bs Qd))
abbrev c_bt_5 : Cut := ⟨i_bt_5, o_bt_5, fun x => Qc l_bt_5 lots x⟩
theorem k_bt_5 : Qo Tryz.prog 52 (.loop (nav Tryz.f151 [1, 1, 0, 1, 0, 1, 0, 1, 0, 0])) c_bt_5 :=
  Qf (L := []) hT g_bt (fun _ _ => by kernel_rfl) okP _
theorem r_bt (x) : Qv T G_bt [(5, c_bt_5)] Tryz.f151 C_bt.ps C_bt.rs x = C_bt.F x := by kernel_rfl
theorem s_bt : Qb Tryz.prog 151 C_bt := fnC (L := [(5, c_bt_5)]) hT g_bt Tryz.f151 (okS okP (okS okP (okS (okS okP (okI (okS okP (okS (okS okP (okB (okU k_bt_5))) okP)) okP)) okP))) r_bt
def F_bu (x : denP P_am) : FO P_am R_a :=
 if (x.1 == (1 : Int)) then
  some (((7 : Int), ()), ())
 else
  if (x.1 == (2 : Int)) then
   some (((8 : Int), ()), ())
  else
   some (((9 : Int), ()), ())
abbrev C_bu : Con := ⟨P_am, R_a, F_bu, false⟩
theorem s_bu : Qb Tryz.prog 153 C_bu := fnC (L := []) hT g_a Tryz.f153 okP fun _ => by kernel_rfl
abbrev P_bv : List PK := [.ptr Y130, .val YI, .val YI]
def F_bv (x : denP P_bv) : FO P_bv R_ap :=
 (F_bt (x.1, ())).bind fun r1 =>
 if (!r1.1.2.1) then
  some (((0 : Int), (7 : Int), ()), ())
 else
  (F_bp (r1.1.1, x.2.1, x.2.2.1, ())).bind fun r2 =>
  if (ltI r2.1.1 (0 : Int)) then
   (F_bu (x.2.2.1, ())).bind fun r3 =>
   some (((0 : Int), r3.1.1, ()), ())
  else
   let v4 := (IntKind.i64.wrap ((r2.1.1).tdiv (8 : Int)))
   if (v4 == (7 : Int)) then
    if (x.2.2.1 == (4 : Int)) then
     some (((0 : Int), (9 : Int), ()), ())
    else
     let v5 := ((r2.1.1).tmod (8 : Int))
     let v6 := (IntKind.i64.wrap ((1000 : Int) + v5))
     some ((v6, (0 : Int), ()), ())
   else
    (F_bp (x.1.1, r2.1.1, x.2.2.1, ())).bind fun r7 =>
    if (ltI r7.1.1 (0 : Int)) then
     (F_bu (x.2.2.1, ())).bind fun r8 =>
     some (((0 : Int), r8.1.1, ()), ())
    else
     some ((r7.1.1, (0 : Int), ()), ())
abbrev C_bv : Con := ⟨P_bv, R_ap, F_bv, false⟩
abbrev G_bv : Env := [(151, C_bt), (152, C_bp), (153, C_bu)]
theorem g_bv : Qe Tryz.prog G_bv := (Qa s_bt (Qa s_bp (Qa s_bu Qd)))
theorem s_bv : Qb Tryz.prog 116 C_bv := fnC (L := []) hT g_bv Tryz.f116 okP fun _ => by kernel_rfl
abbrev R_bw : List VK := [.s (.dat .bool), .s (.dat .bool), .s (.dat .bool)]
def F_bw (x : denP P_am) : FO P_am R_bw :=
 if (x.1 == (13 : Int)) then
  some ((false, true, false, ()), ())
 else
  if (x.1 == (19 : Int)) then
   some ((false, true, false, ()), ())
  else
   if (x.1 == (21 : Int)) then
    some ((false, true, false, ()), ())
   else
    if (x.1 == (22 : Int)) then
     some ((true, false, false, ()), ())
    else
     if (x.1 == (23 : Int)) then
      some ((true, true, true, ()), ())
     else
      if (x.1 == (24 : Int)) then
       some ((true, true, true, ()), ())
      else
       if (x.1 == (25 : Int)) then
        some ((true, true, true, ()), ())
       else
        if (x.1 == (26 : Int)) then
         some ((true, true, true, ()), ())
        else
         some ((false, false, false, ()), ())
abbrev C_bw : Con := ⟨P_am, R_bw, F_bw, false⟩
theorem s_bw : Qb Tryz.prog 180 C_bw := fnC (L := []) hT g_a Tryz.f180 okP fun _ => by kernel_rfl
abbrev P_bx : List PK := [.val Y171]
def F_bx (x : denP P_bx) : FO P_bx R_a :=
 (F_aa (x.1.1, (1 : Int), (26 : Int), ())).bind fun r1 =>
 if (!r1.1.1) = false then
  (F_aa (x.1.2.1, (0 : Int), (15 : Int), ())).bind fun r2 =>
  if (!r2.1.1) = false then
   (F_aa (x.1.2.2.1, (0 : Int), (15 : Int), ())).bind fun r3 =>
   if (!r3.1.1) = false then
    (F_aa (x.1.2.2.2.1, (0 : Int), (65535 : Int), ())).bind fun r4 =>
    if (!r4.1.1) then
     some (((3 : Int), ()), ())
    else
     (F_bw (x.1.1, ())).bind fun r5 =>
     if r5.1.1 = true then
      if (x.1.2.1 != (0 : Int)) = false then
       if r5.1.2.1 = true then
        if (x.1.2.2.1 != (0 : Int)) = false then
         if r5.1.2.2.1 = true then
          if (x.1.2.2.2.1 != (0 : Int)) = false then
           if (leI x.1.1 (11 : Int)) = true then
            if (ltI (15 : Int) x.1.2.2.2.1) = false then
             if (x.1.1 == (21 : Int)) = false then
              if (x.1.1 == (22 : Int)) = true then
               if (ltI (10 : Int) x.1.2.2.2.1) then
                some (((1 : Int), ()), ())
               else
                some (((0 : Int), ()), ())
              else
               some (((0 : Int), ()), ())
             else
              if (ltI (10 : Int) x.1.2.2.2.1) then
               some (((1 : Int), ()), ())
              else
               some (((0 : Int), ()), ())
            else
             some (((1 : Int), ()), ())
           else
            if (x.1.1 == (21 : Int)) = false then
             if (x.1.1 == (22 : Int)) = true then
              if (ltI (10 : Int) x.1.2.2.2.1) then
               some (((1 : Int), ()), ())
              else
               some (((0 : Int), ()), ())
             else
              some (((0 : Int), ()), ())
            else
             if (ltI (10 : Int) x.1.2.2.2.1) then
              some (((1 : Int), ()), ())
             else
              some (((0 : Int), ()), ())
          else
           some (((1 : Int), ()), ())
         else
          if (leI x.1.1 (11 : Int)) = true then
           if (ltI (15 : Int) x.1.2.2.2.1) = false then
            if (x.1.1 == (21 : Int)) = false then
             if (x.1.1 == (22 : Int)) = true then
              if (ltI (10 : Int) x.1.2.2.2.1) then
               some (((1 : Int), ()), ())
              else
               some (((0 : Int), ()), ())
             else
              some (((0 : Int), ()), ())
            else
             if (ltI (10 : Int) x.1.2.2.2.1) then
              some (((1 : Int), ()), ())
             else
              some (((0 : Int), ()), ())
           else
            some (((1 : Int), ()), ())
          else
           if (x.1.1 == (21 : Int)) = false then
            if (x.1.1 == (22 : Int)) = true then
             if (ltI (10 : Int) x.1.2.2.2.1) then
              some (((1 : Int), ()), ())
             else
              some (((0 : Int), ()), ())
            else
             some (((0 : Int), ()), ())
           else
            if (ltI (10 : Int) x.1.2.2.2.1) then
             some (((1 : Int), ()), ())
            else
             some (((0 : Int), ()), ())
        else
         some (((1 : Int), ()), ())
       else
        if r5.1.2.2.1 = true then
         if (x.1.2.2.2.1 != (0 : Int)) = false then
          if (leI x.1.1 (11 : Int)) = true then
           if (ltI (15 : Int) x.1.2.2.2.1) = false then
            if (x.1.1 == (21 : Int)) = false then
             if (x.1.1 == (22 : Int)) = true then
              if (ltI (10 : Int) x.1.2.2.2.1) then
               some (((1 : Int), ()), ())
              else
               some (((0 : Int), ()), ())
             else
              some (((0 : Int), ()), ())
            else
             if (ltI (10 : Int) x.1.2.2.2.1) then
              some (((1 : Int), ()), ())
             else
              some (((0 : Int), ()), ())
           else
            some (((1 : Int), ()), ())
          else
           if (x.1.1 == (21 : Int)) = false then
            if (x.1.1 == (22 : Int)) = true then
             if (ltI (10 : Int) x.1.2.2.2.1) then
              some (((1 : Int), ()), ())
             else
              some (((0 : Int), ()), ())
            else
             some (((0 : Int), ()), ())
           else
            if (ltI (10 : Int) x.1.2.2.2.1) then
             some (((1 : Int), ()), ())
            else
             some (((0 : Int), ()), ())
         else
          some (((1 : Int), ()), ())
        else
         if (leI x.1.1 (11 : Int)) = true then
          if (ltI (15 : Int) x.1.2.2.2.1) = false then
           if (x.1.1 == (21 : Int)) = false then
            if (x.1.1 == (22 : Int)) = true then
             if (ltI (10 : Int) x.1.2.2.2.1) then
              some (((1 : Int), ()), ())
             else
              some (((0 : Int), ()), ())
            else
             some (((0 : Int), ()), ())
           else
            if (ltI (10 : Int) x.1.2.2.2.1) then
             some (((1 : Int), ()), ())
            else
             some (((0 : Int), ()), ())
          else
           some (((1 : Int), ()), ())
         else
          if (x.1.1 == (21 : Int)) = false then
           if (x.1.1 == (22 : Int)) = true then
            if (ltI (10 : Int) x.1.2.2.2.1) then
             some (((1 : Int), ()), ())
            else
             some (((0 : Int), ()), ())
           else
            some (((0 : Int), ()), ())
          else
           if (ltI (10 : Int) x.1.2.2.2.1) then
            some (((1 : Int), ()), ())
           else
            some (((0 : Int), ()), ())
      else
       some (((1 : Int), ()), ())
     else
      if r5.1.2.1 = true then
       if (x.1.2.2.1 != (0 : Int)) = false then
        if r5.1.2.2.1 = true then
         if (x.1.2.2.2.1 != (0 : Int)) = false then
          if (leI x.1.1 (11 : Int)) = true then
           if (ltI (15 : Int) x.1.2.2.2.1) = false then
            if (x.1.1 == (21 : Int)) = false then
             if (x.1.1 == (22 : Int)) = true then
              if (ltI (10 : Int) x.1.2.2.2.1) then
               some (((1 : Int), ()), ())
              else
               some (((0 : Int), ()), ())
             else
              some (((0 : Int), ()), ())
            else
             if (ltI (10 : Int) x.1.2.2.2.1) then
              some (((1 : Int), ()), ())
             else
              some (((0 : Int), ()), ())
           else
            some (((1 : Int), ()), ())
          else
           if (x.1.1 == (21 : Int)) = false then
            if (x.1.1 == (22 : Int)) = true then
             if (ltI (10 : Int) x.1.2.2.2.1) then
              some (((1 : Int), ()), ())
             else
              some (((0 : Int), ()), ())
            else
             some (((0 : Int), ()), ())
           else
            if (ltI (10 : Int) x.1.2.2.2.1) then
             some (((1 : Int), ()), ())
            else
             some (((0 : Int), ()), ())
         else
          some (((1 : Int), ()), ())
        else
         if (leI x.1.1 (11 : Int)) = true then
          if (ltI (15 : Int) x.1.2.2.2.1) = false then
           if (x.1.1 == (21 : Int)) = false then
            if (x.1.1 == (22 : Int)) = true then
             if (ltI (10 : Int) x.1.2.2.2.1) then
              some (((1 : Int), ()), ())
             else
              some (((0 : Int), ()), ())
            else
             some (((0 : Int), ()), ())
           else
            if (ltI (10 : Int) x.1.2.2.2.1) then
             some (((1 : Int), ()), ())
            else
             some (((0 : Int), ()), ())
          else
           some (((1 : Int), ()), ())
         else
          if (x.1.1 == (21 : Int)) = false then
           if (x.1.1 == (22 : Int)) = true then
            if (ltI (10 : Int) x.1.2.2.2.1) then
             some (((1 : Int), ()), ())
            else
             some (((0 : Int), ()), ())
           else
            some (((0 : Int), ()), ())
          else
           if (ltI (10 : Int) x.1.2.2.2.1) then
            some (((1 : Int), ()), ())
           else
            some (((0 : Int), ()), ())
       else
        some (((1 : Int), ()), ())
      else
       if r5.1.2.2.1 = true then
        if (x.1.2.2.2.1 != (0 : Int)) = false then
         if (leI x.1.1 (11 : Int)) = true then
          if (ltI (15 : Int) x.1.2.2.2.1) = false then
           if (x.1.1 == (21 : Int)) = false then
            if (x.1.1 == (22 : Int)) = true then
             if (ltI (10 : Int) x.1.2.2.2.1) then
              some (((1 : Int), ()), ())
             else
              some (((0 : Int), ()), ())
            else
             some (((0 : Int), ()), ())
           else
            if (ltI (10 : Int) x.1.2.2.2.1) then
             some (((1 : Int), ()), ())
            else
             some (((0 : Int), ()), ())
          else
           some (((1 : Int), ()), ())
         else
          if (x.1.1 == (21 : Int)) = false then
           if (x.1.1 == (22 : Int)) = true then
            if (ltI (10 : Int) x.1.2.2.2.1) then
             some (((1 : Int), ()), ())
            else
             some (((0 : Int), ()), ())
           else
            some (((0 : Int), ()), ())
          else
           if (ltI (10 : Int) x.1.2.2.2.1) then
            some (((1 : Int), ()), ())
           else
            some (((0 : Int), ()), ())
        else
         some (((1 : Int), ()), ())
       else
        if (leI x.1.1 (11 : Int)) = true then
         if (ltI (15 : Int) x.1.2.2.2.1) = false then
          if (x.1.1 == (21 : Int)) = false then
           if (x.1.1 == (22 : Int)) = true then
            if (ltI (10 : Int) x.1.2.2.2.1) then
             some (((1 : Int), ()), ())
            else
             some (((0 : Int), ()), ())
           else
            some (((0 : Int), ()), ())
          else
           if (ltI (10 : Int) x.1.2.2.2.1) then
            some (((1 : Int), ()), ())
           else
            some (((0 : Int), ()), ())
         else
          some (((1 : Int), ()), ())
        else
         if (x.1.1 == (21 : Int)) = false then
          if (x.1.1 == (22 : Int)) = true then
           if (ltI (10 : Int) x.1.2.2.2.1) then
            some (((1 : Int), ()), ())
           else
            some (((0 : Int), ()), ())
          else
           some (((0 : Int), ()), ())
         else
          if (ltI (10 : Int) x.1.2.2.2.1) then
           some (((1 : Int), ()), ())
          else
           some (((0 : Int), ()), ())
   else
    some (((3 : Int), ()), ())
  else
   some (((3 : Int), ()), ())
 else
  some (((3 : Int), ()), ())
abbrev C_bx : Con := ⟨P_bx, R_a, F_bx, false⟩
abbrev G_bx : Env := [(59, C_aa), (180, C_bw)]
theorem g_bx : Qe Tryz.prog G_bx := (Qa s_aa (Qa s_bw Qd))
theorem s_bx : Qb Tryz.prog 154 C_bx := fnC (L := []) hT g_bx Tryz.f154 okP fun _ => by kernel_rfl
abbrev R_by : List VK := [.s (.dat Y171), .s (.dat .bool)]
def F_by (x : denP P_am) : FO P_am R_by :=
 (F_aa (x.1, (0 : Int), (4294967295 : Int), ())).bind fun r1 =>
 if (!r1.1.1) then
  some ((((0 : Int), ((0 : Int), ((0 : Int), ((0 : Int), ())))), false, ()), ())
 else
  let v2 := ((x.1).fdiv (2 ^ 24))
  let v3 := ((x.1).fdiv (2 ^ 20))
  let v4 := (iand .i64 v3 (15 : Int))
  let v5 := ((x.1).fdiv (2 ^ 16))
  let v6 := (iand .i64 v5 (15 : Int))
  let v7 := (iand .i64 x.1 (65535 : Int))
  (F_bx ((v2, (v4, (v6, (v7, ())))), ())).bind fun r8 =>
  some (((v2, (v4, (v6, (v7, ())))), (r8.1.1 == (0 : Int)), ()), ())
abbrev C_by : Con := ⟨P_am, R_by, F_by, false⟩
abbrev G_by : Env := [(59, C_aa), (154, C_bx)]
theorem g_by : Qe Tryz.prog G_by := (Qa s_aa (Qa s_bx Qd))
theorem s_by : Qb Tryz.prog 117 C_by := fnC (L := []) hT g_by Tryz.f117 okP fun _ => by kernel_rfl
abbrev P_bz : List PK := [.val YI, .val YI]
def F_bz (x : denP P_bz) : FO P_bz R_a :=
 let v1 := (IntKind.u32.wrap x.1)
 let v2 := (IntKind.u32.wrap x.2.1)
 let v3 := (IntKind.u32.wrap (v1 + v2))
 let v4 := (IntKind.i64.wrap v3)
 some ((v4, ()), ())
abbrev C_bz : Con := ⟨P_bz, R_a, F_bz, false⟩
theorem s_bz : Qb Tryz.prog 155 C_bz := fnC (L := []) hT g_a Tryz.f155 okP fun _ => by kernel_rfl
def F_ca (x : denP P_am) : FO P_am R_a :=
 let v1 := (IntKind.u16.wrap x.1)
 let v2 := (IntKind.i16.wrap v1)
 let v3 := (IntKind.i64.wrap v2)
 some ((v3, ()), ())
abbrev C_ca : Con := ⟨P_am, R_a, F_ca, false⟩
theorem s_ca : Qb Tryz.prog 156 C_ca := fnC (L := []) hT g_a Tryz.f156 okP fun _ => by kernel_rfl
def F_cb (x : denP P_bo) : FO P_bo R_bj :=
 if (x.2.1 != (0 : Int)) then
  if 0 ≤ x.2.1 ∧ x.2.1 < ((x.1.2.2.2.1.length : Nat) : Int) then
   ((x.1.2.2.2.1)[(x.2.1).toNat]?).bind fun y1 =>
   let v2 := (x.1.2.2.2.1.set (x.2.1).toNat x.2.2.1)
   some ((), ((x.1.1, (x.1.2.1, (x.1.2.2.1, (v2, (x.1.2.2.2.2.1, (x.1.2.2.2.2.2.1, (x.1.2.2.2.2.2.2.1, (x.1.2.2.2.2.2.2.2.1, (x.1.2.2.2.2.2.2.2.2.1, (x.1.2.2.2.2.2.2.2.2.2.1, (x.1.2.2.2.2.2.2.2.2.2.2.1, (x.1.2.2.2.2.2.2.2.2.2.2.2.1, (x.1.2.2.2.2.2.2.2.2.2.2.2.2.1, ()))))))))))))), ()))
  else none
 else
  some ((), (x.1, ()))
abbrev C_cb : Con := ⟨P_bo, R_bj, F_cb, false⟩
theorem s_cb : Qb Tryz.prog 157 C_cb := fnC (L := []) hT g_a Tryz.f157 okP fun _ => by kernel_rfl
abbrev P_cc : List PK := [.box [.own 2 YI, .dat YI, .own 2 YI, .dat .bool, .dat .bool, .dat .bool, .dat YI, .dat Y28, .own 2 YI] [.own 2 YI, .dat YI, .own 2 YI, .dat .bool, .dat .bool, .dat .bool, .dat YI, .dat Y28, .own 2 YI], .val YI]
def F_cc (x : denP P_cc) : FO P_cc R_a :=
 if (x.2.1 == (1 : Int)) then
  let v1 := ((x.1.2.2.2.2.2.2.2.1.length : Nat) : Int)
  if (v1 == (0 : Int)) then
   some (((0 : Int), ()), (x.1, ()))
  else
   ((x.1.2.2.2.2.2.2.2.1)[((0 : Int)).toNat]?).bind fun y2 =>
   if 0 ≤ (1 : Int) ∧ (1 : Int) ≤ ((x.1.2.2.2.2.2.2.2.1.length : Nat) : Int) ∧ ((x.1.2.2.2.2.2.2.2.1.length : Nat) : Int) ≤ ((x.1.2.2.2.2.2.2.2.1.length : Nat) : Int) then
    let v3 := ((x.1.2.2.2.2.2.2.2.1.drop ((1 : Int)).toNat).take ((((x.1.2.2.2.2.2.2.2.1.length : Nat) : Int)).toNat - ((1 : Int)).toNat))
    some ((y2, ()), ((x.1.1, (x.1.2.1, (x.1.2.2.1, (x.1.2.2.2.1, (x.1.2.2.2.2.1, (x.1.2.2.2.2.2.1, (x.1.2.2.2.2.2.2.1, (v3, (x.1.2.2.2.2.2.2.2.2.1, ()))))))))), ()))
   else none
 else
  if (x.2.1 == (2 : Int)) then
   some ((x.1.2.2.2.2.2.2.1, ()), (x.1, ()))
  else
   if (x.2.1 == (3 : Int)) then
    if 0 ≤ (9 : Int) ∧ (9 : Int) < ((x.1.2.2.1.length : Nat) : Int) then
     ((x.1.2.2.1)[((9 : Int)).toNat]?).bind fun y4 =>
     some ((y4, ()), (x.1, ()))
    else none
   else
    if (x.2.1 == (4 : Int)) then
     (F_bl (x.1, ())).bind fun r5 =>
     some ((r5.1.1, ()), (x.1, ()))
    else
     if (x.2.1 == (6 : Int)) then
      let v6 := ((x.1.2.2.2.2.2.2.2.1.length : Nat) : Int)
      some ((v6, ()), (x.1, ()))
     else
      some (((0 : Int), ()), (x.1, ()))
abbrev C_cc : Con := ⟨P_cc, R_a, F_cc, false⟩
theorem g_cc : Qe Tryz.prog G_bm := (Qa s_bl Qd)
theorem s_cc : Qb Tryz.prog 181 C_cc := fnC (L := []) hT g_cc Tryz.f181 okP fun _ => by kernel_rfl
def F_cd (x : denP P_am) : FO P_am R_a :=
 let v1 := (IntKind.u32.wrap x.1)
 let v2 := (IntKind.i64.wrap v1)
 some ((v2, ()), ())
abbrev C_cd : Con := ⟨P_am, R_a, F_cd, false⟩
theorem s_cd : Qb Tryz.prog 184 C_cd := fnC (L := []) hT g_a Tryz.f184 okP fun _ => by kernel_rfl
def F_ce (x : denP P_bn) : FO P_bn R_bj :=
 (F_cd (x.2.2.1, ())).bind fun r1 =>
 if (x.2.1 == (0 : Int)) then
  let v2 := ((r1.1.1).tmod (4 : Int))
  if 0 ≤ x.2.1 ∧ x.2.1 < ((x.1.2.2.1.length : Nat) : Int) then
   ((x.1.2.2.1)[(x.2.1).toNat]?).bind fun y3 =>
   let v4 := (x.1.2.2.1.set (x.2.1).toNat v2)
   some ((), ((x.1.1, (x.1.2.1, (v4, (x.1.2.2.2.1, (x.1.2.2.2.2.1, (x.1.2.2.2.2.2.1, (x.1.2.2.2.2.2.2.1, (x.1.2.2.2.2.2.2.2.1, (x.1.2.2.2.2.2.2.2.2.1, ()))))))))), ()))
  else none
 else
  if (x.2.1 == (7 : Int)) then
   let v5 := ((r1.1.1).tmod (8 : Int))
   if 0 ≤ x.2.1 ∧ x.2.1 < ((x.1.2.2.1.length : Nat) : Int) then
    ((x.1.2.2.1)[(x.2.1).toNat]?).bind fun y6 =>
    let v7 := (x.1.2.2.1.set (x.2.1).toNat v5)
    some ((), ((x.1.1, (x.1.2.1, (v7, (x.1.2.2.2.1, (x.1.2.2.2.2.1, (x.1.2.2.2.2.2.1, (x.1.2.2.2.2.2.2.1, (x.1.2.2.2.2.2.2.2.1, (x.1.2.2.2.2.2.2.2.2.1, ()))))))))), ()))
   else none
  else
   if (x.2.1 == (10 : Int)) then
    if 0 ≤ x.2.1 ∧ x.2.1 < ((x.1.2.2.1.length : Nat) : Int) then
     ((x.1.2.2.1)[(x.2.1).toNat]?).bind fun y8 =>
     let v9 := (x.1.2.2.1.set (x.2.1).toNat (0 : Int))
     if (leI r1.1.1 (8 : Int)) then
      if 0 ≤ x.2.1 ∧ x.2.1 < ((v9.length : Nat) : Int) then
       ((v9)[(x.2.1).toNat]?).bind fun y10 =>
       let v11 := (v9.set (x.2.1).toNat r1.1.1)
       some ((), ((x.1.1, (x.1.2.1, (v11, (x.1.2.2.2.1, (x.1.2.2.2.2.1, (x.1.2.2.2.2.2.1, (x.1.2.2.2.2.2.2.1, (x.1.2.2.2.2.2.2.2.1, (x.1.2.2.2.2.2.2.2.2.1, ()))))))))), ()))
      else none
     else
      some ((), ((x.1.1, (x.1.2.1, (v9, (x.1.2.2.2.1, (x.1.2.2.2.2.1, (x.1.2.2.2.2.2.1, (x.1.2.2.2.2.2.2.1, (x.1.2.2.2.2.2.2.2.1, (x.1.2.2.2.2.2.2.2.2.1, ()))))))))), ()))
    else none
   else
    if (x.2.1 == (6 : Int)) then
     if x.1.2.2.2.2.2.1 = true then
      let v12 := ((r1.1.1).tmod (4 : Int))
      some ((), ((x.1.1, (x.1.2.1, (x.1.2.2.1, (x.1.2.2.2.1, (x.1.2.2.2.2.1, ((ltI v12 (2 : Int)), (x.1.2.2.2.2.2.2.1, (x.1.2.2.2.2.2.2.2.1, (x.1.2.2.2.2.2.2.2.2.1, ()))))))))), ()))
     else
      some ((), ((x.1.1, (x.1.2.1, (x.1.2.2.1, (x.1.2.2.2.1, (x.1.2.2.2.2.1, (false, (x.1.2.2.2.2.2.2.1, (x.1.2.2.2.2.2.2.2.1, (x.1.2.2.2.2.2.2.2.2.1, ()))))))))), ()))
    else
     if (x.2.1 == (8 : Int)) then
      some ((), (x.1, ()))
     else
      if 0 ≤ x.2.1 ∧ x.2.1 < ((x.1.2.2.1.length : Nat) : Int) then
       ((x.1.2.2.1)[(x.2.1).toNat]?).bind fun y13 =>
       let v14 := (x.1.2.2.1.set (x.2.1).toNat r1.1.1)
       some ((), ((x.1.1, (x.1.2.1, (v14, (x.1.2.2.2.1, (x.1.2.2.2.2.1, (x.1.2.2.2.2.2.1, (x.1.2.2.2.2.2.2.1, (x.1.2.2.2.2.2.2.2.1, (x.1.2.2.2.2.2.2.2.2.1, ()))))))))), ()))
      else none
abbrev C_ce : Con := ⟨P_bn, R_bj, F_ce, false⟩
abbrev G_ce : Env := [(184, C_cd)]
theorem g_ce : Qe Tryz.prog G_ce := (Qa s_cd Qd)
theorem s_ce : Qb Tryz.prog 161 C_ce := fnC (L := []) hT g_ce Tryz.f161 okP fun _ => by kernel_rfl
def F_cf (x : denP P_bn) : FO P_bn R_a :=
 (F_cd (x.2.2.1, ())).bind fun r1 =>
 if (x.2.1 == (0 : Int)) then
  let v2 := ((x.1.2.2.2.2.2.2.2.2.1.length : Nat) : Int)
  if (ltI v2 (40 : Int)) then
   if (x.1.2.2.2.2.2.2.2.2.1.length + [r1.1.1].length) * 8 ≤ 140737488355328 then
    let v3 := (x.1.2.2.2.2.2.2.2.2.1 ++ [r1.1.1])
    some (((-1 : Int), ()), ((x.1.1, (x.1.2.1, (x.1.2.2.1, (x.1.2.2.2.1, (x.1.2.2.2.2.1, (x.1.2.2.2.2.2.1, (x.1.2.2.2.2.2.2.1, (x.1.2.2.2.2.2.2.2.1, (v3, ()))))))))), ()))
   else none
  else
   some (((-1 : Int), ()), (x.1, ()))
 else
  if (x.2.1 == (3 : Int)) then
   if 0 ≤ (9 : Int) ∧ (9 : Int) < ((x.1.2.2.1.length : Nat) : Int) then
    ((x.1.2.2.1)[((9 : Int)).toNat]?).bind fun y4 =>
    let v5 := (x.1.2.2.1.set ((9 : Int)).toNat r1.1.1)
    some (((-1 : Int), ()), ((x.1.1, (x.1.2.1, (v5, (x.1.2.2.2.1, (x.1.2.2.2.2.1, (x.1.2.2.2.2.2.1, (x.1.2.2.2.2.2.2.1, (x.1.2.2.2.2.2.2.2.1, (x.1.2.2.2.2.2.2.2.2.1, ()))))))))), ()))
   else none
  else
   if (x.2.1 == (4 : Int)) then
    (F_ce (x.1, (6 : Int), r1.1.1, ())).bind fun r6 =>
    some (((-1 : Int), ()), (r6.2.1, ()))
   else
    if (x.2.1 == (5 : Int)) then
     some ((r1.1.1, ()), (x.1, ()))
    else
     some (((-1 : Int), ()), (x.1, ()))
abbrev C_cf : Con := ⟨P_bn, R_a, F_cf, false⟩
abbrev G_cf : Env := [(161, C_ce), (184, C_cd)]
theorem g_cf : Qe Tryz.prog G_cf := (Qa s_ce (Qa s_cd Qd))
theorem s_cf : Qb Tryz.prog 182 C_cf := fnC (L := []) hT g_cf Tryz.f182 okP fun _ => by kernel_rfl
abbrev P_cg : List PK := [.box [.dat Y24, .own 2 YI, .dat YI, .own 2 YI, .dat YI, .own 2 YI, .dat .bool, .dat .bool, .dat .bool, .dat YI, .dat Y28, .own 2 YI, .dat YI] [.dat Y24, .own 2 YI, .dat YI, .own 2 YI, .dat YI, .own 2 YI, .dat .bool, .dat .bool, .dat .bool, .dat YI, .dat Y28, .own 2 YI, .dat YI], .val Y171]
def F_cg (x : denP P_cg) : FO P_cg R_aa :=
 if 0 ≤ x.2.1.2.2.1 ∧ x.2.1.2.2.1 < ((x.1.2.2.2.1.length : Nat) : Int) then
  ((x.1.2.2.2.1)[(x.2.1.2.2.1).toNat]?).bind fun y1 =>
  (F_ca (x.2.1.2.2.2.1, ())).bind fun r2 =>
  (F_bz (y1, r2.1.1, ())).bind fun r3 =>
  if (x.2.1.1 == (15 : Int)) then
   (F_bv ((x.1.1, (x.1.2.1, (x.1.2.2.1, ((x.1.2.2.2.1, (x.1.2.2.2.2.1, (x.1.2.2.2.2.2.1, (x.1.2.2.2.2.2.2.1, (x.1.2.2.2.2.2.2.2.1, (x.1.2.2.2.2.2.2.2.2.1, (x.1.2.2.2.2.2.2.2.2.2.1, (x.1.2.2.2.2.2.2.2.2.2.2.1, (x.1.2.2.2.2.2.2.2.2.2.2.2.1, ()))))))))), (x.1.2.2.2.2.2.2.2.2.2.2.2.2.1, ()))))), r3.1.1, (2 : Int), ())).bind fun r4 =>
   if (r4.1.2.1 != (0 : Int)) then
    (F_bo (x.1, (4 : Int), r3.1.1, ())).bind fun r5 =>
    some ((false, ()), (r5.2.1, ()))
   else
    if (x.2.1.1 == (14 : Int)) = true then
     if (leI (1000 : Int) r4.1.1) then
      let v6 := (IntKind.i64.wrap (r4.1.1 - (1000 : Int)))
      (F_cc ((x.1.2.2.2.1, (x.1.2.2.2.2.1, (x.1.2.2.2.2.2.1, (x.1.2.2.2.2.2.2.1, (x.1.2.2.2.2.2.2.2.1, (x.1.2.2.2.2.2.2.2.2.1, (x.1.2.2.2.2.2.2.2.2.2.1, (x.1.2.2.2.2.2.2.2.2.2.2.1, (x.1.2.2.2.2.2.2.2.2.2.2.2.1, ()))))))))), v6, ())).bind fun r7 =>
      (F_cb ((x.1.1, (x.1.2.1, (x.1.2.2.1, (r7.2.1.1, (r7.2.1.2.1, (r7.2.1.2.2.1, (r7.2.1.2.2.2.1, (r7.2.1.2.2.2.2.1, (r7.2.1.2.2.2.2.2.1, (r7.2.1.2.2.2.2.2.2.1, (r7.2.1.2.2.2.2.2.2.2.1, (r7.2.1.2.2.2.2.2.2.2.2.1, (x.1.2.2.2.2.2.2.2.2.2.2.2.2.1, ()))))))))))))), x.2.1.2.1, r7.1.1, ())).bind fun r8 =>
      some ((true, ()), (r8.2.1, ()))
     else
      if (x.2.1.1 == (14 : Int)) then
       if 0 ≤ r4.1.1 ∧ r4.1.1 < ((x.1.2.1.length : Nat) : Int) then
        ((x.1.2.1)[(r4.1.1).toNat]?).bind fun y9 =>
        (F_cb (x.1, x.2.1.2.1, y9, ())).bind fun r10 =>
        some ((true, ()), (r10.2.1, ()))
       else none
      else
       if (leI (1000 : Int) r4.1.1) then
        let v11 := (IntKind.i64.wrap (r4.1.1 - (1000 : Int)))
        if 0 ≤ x.2.1.2.1 ∧ x.2.1.2.1 < ((x.1.2.2.2.1.length : Nat) : Int) then
         ((x.1.2.2.2.1)[(x.2.1.2.1).toNat]?).bind fun y12 =>
         (F_cf ((x.1.2.2.2.1, (x.1.2.2.2.2.1, (x.1.2.2.2.2.2.1, (x.1.2.2.2.2.2.2.1, (x.1.2.2.2.2.2.2.2.1, (x.1.2.2.2.2.2.2.2.2.1, (x.1.2.2.2.2.2.2.2.2.2.1, (x.1.2.2.2.2.2.2.2.2.2.2.1, (x.1.2.2.2.2.2.2.2.2.2.2.2.1, ()))))))))), v11, y12, ())).bind fun r13 =>
         some ((true, ()), ((x.1.1, (x.1.2.1, (r13.1.1, (r13.2.1.1, (r13.2.1.2.1, (r13.2.1.2.2.1, (r13.2.1.2.2.2.1, (r13.2.1.2.2.2.2.1, (r13.2.1.2.2.2.2.2.1, (r13.2.1.2.2.2.2.2.2.1, (r13.2.1.2.2.2.2.2.2.2.1, (r13.2.1.2.2.2.2.2.2.2.2.1, (x.1.2.2.2.2.2.2.2.2.2.2.2.2.1, ()))))))))))))), ()))
        else none
       else
        if 0 ≤ x.2.1.2.1 ∧ x.2.1.2.1 < ((x.1.2.2.2.1.length : Nat) : Int) then
         ((x.1.2.2.2.1)[(x.2.1.2.1).toNat]?).bind fun y14 =>
         if 0 ≤ r4.1.1 ∧ r4.1.1 < ((x.1.2.1.length : Nat) : Int) then
          ((x.1.2.1)[(r4.1.1).toNat]?).bind fun y15 =>
          let v16 := (x.1.2.1.set (r4.1.1).toNat y14)
          some ((true, ()), ((x.1.1, (v16, (x.1.2.2.1, (x.1.2.2.2.1, (x.1.2.2.2.2.1, (x.1.2.2.2.2.2.1, (x.1.2.2.2.2.2.2.1, (x.1.2.2.2.2.2.2.2.1, (x.1.2.2.2.2.2.2.2.2.1, (x.1.2.2.2.2.2.2.2.2.2.1, (x.1.2.2.2.2.2.2.2.2.2.2.1, (x.1.2.2.2.2.2.2.2.2.2.2.2.1, (x.1.2.2.2.2.2.2.2.2.2.2.2.2.1, ()))))))))))))), ()))
         else none
        else none
    else
     if (x.2.1.1 == (14 : Int)) then
      if 0 ≤ r4.1.1 ∧ r4.1.1 < ((x.1.2.1.length : Nat) : Int) then
       ((x.1.2.1)[(r4.1.1).toNat]?).bind fun y17 =>
       (F_cb (x.1, x.2.1.2.1, y17, ())).bind fun r18 =>
       some ((true, ()), (r18.2.1, ()))
      else none
     else
      if (leI (1000 : Int) r4.1.1) then
       let v19 := (IntKind.i64.wrap (r4.1.1 - (1000 : Int)))
       if 0 ≤ x.2.1.2.1 ∧ x.2.1.2.1 < ((x.1.2.2.2.1.length : Nat) : Int) then
        ((x.1.2.2.2.1)[(x.2.1.2.1).toNat]?).bind fun y20 =>
        (F_cf ((x.1.2.2.2.1, (x.1.2.2.2.2.1, (x.1.2.2.2.2.2.1, (x.1.2.2.2.2.2.2.1, (x.1.2.2.2.2.2.2.2.1, (x.1.2.2.2.2.2.2.2.2.1, (x.1.2.2.2.2.2.2.2.2.2.1, (x.1.2.2.2.2.2.2.2.2.2.2.1, (x.1.2.2.2.2.2.2.2.2.2.2.2.1, ()))))))))), v19, y20, ())).bind fun r21 =>
        some ((true, ()), ((x.1.1, (x.1.2.1, (r21.1.1, (r21.2.1.1, (r21.2.1.2.1, (r21.2.1.2.2.1, (r21.2.1.2.2.2.1, (r21.2.1.2.2.2.2.1, (r21.2.1.2.2.2.2.2.1, (r21.2.1.2.2.2.2.2.2.1, (r21.2.1.2.2.2.2.2.2.2.1, (r21.2.1.2.2.2.2.2.2.2.2.1, (x.1.2.2.2.2.2.2.2.2.2.2.2.2.1, ()))))))))))))), ()))
       else none
      else
       if 0 ≤ x.2.1.2.1 ∧ x.2.1.2.1 < ((x.1.2.2.2.1.length : Nat) : Int) then
        ((x.1.2.2.2.1)[(x.2.1.2.1).toNat]?).bind fun y22 =>
        if 0 ≤ r4.1.1 ∧ r4.1.1 < ((x.1.2.1.length : Nat) : Int) then
         ((x.1.2.1)[(r4.1.1).toNat]?).bind fun y23 =>
         let v24 := (x.1.2.1.set (r4.1.1).toNat y22)
         some ((true, ()), ((x.1.1, (v24, (x.1.2.2.1, (x.1.2.2.2.1, (x.1.2.2.2.2.1, (x.1.2.2.2.2.2.1, (x.1.2.2.2.2.2.2.1, (x.1.2.2.2.2.2.2.2.1, (x.1.2.2.2.2.2.2.2.2.1, (x.1.2.2.2.2.2.2.2.2.2.1, (x.1.2.2.2.2.2.2.2.2.2.2.1, (x.1.2.2.2.2.2.2.2.2.2.2.2.1, (x.1.2.2.2.2.2.2.2.2.2.2.2.2.1, ()))))))))))))), ()))
        else none
       else none
  else
   (F_bv ((x.1.1, (x.1.2.1, (x.1.2.2.1, ((x.1.2.2.2.1, (x.1.2.2.2.2.1, (x.1.2.2.2.2.2.1, (x.1.2.2.2.2.2.2.1, (x.1.2.2.2.2.2.2.2.1, (x.1.2.2.2.2.2.2.2.2.1, (x.1.2.2.2.2.2.2.2.2.2.1, (x.1.2.2.2.2.2.2.2.2.2.2.1, (x.1.2.2.2.2.2.2.2.2.2.2.2.1, ()))))))))), (x.1.2.2.2.2.2.2.2.2.2.2.2.2.1, ()))))), r3.1.1, (1 : Int), ())).bind fun r25 =>
   if (r25.1.2.1 != (0 : Int)) then
    (F_bo (x.1, (3 : Int), r3.1.1, ())).bind fun r26 =>
    some ((false, ()), (r26.2.1, ()))
   else
    if (x.2.1.1 == (14 : Int)) = true then
     if (leI (1000 : Int) r25.1.1) then
      let v27 := (IntKind.i64.wrap (r25.1.1 - (1000 : Int)))
      (F_cc ((x.1.2.2.2.1, (x.1.2.2.2.2.1, (x.1.2.2.2.2.2.1, (x.1.2.2.2.2.2.2.1, (x.1.2.2.2.2.2.2.2.1, (x.1.2.2.2.2.2.2.2.2.1, (x.1.2.2.2.2.2.2.2.2.2.1, (x.1.2.2.2.2.2.2.2.2.2.2.1, (x.1.2.2.2.2.2.2.2.2.2.2.2.1, ()))))))))), v27, ())).bind fun r28 =>
      (F_cb ((x.1.1, (x.1.2.1, (x.1.2.2.1, (r28.2.1.1, (r28.2.1.2.1, (r28.2.1.2.2.1, (r28.2.1.2.2.2.1, (r28.2.1.2.2.2.2.1, (r28.2.1.2.2.2.2.2.1, (r28.2.1.2.2.2.2.2.2.1, (r28.2.1.2.2.2.2.2.2.2.1, (r28.2.1.2.2.2.2.2.2.2.2.1, (x.1.2.2.2.2.2.2.2.2.2.2.2.2.1, ()))))))))))))), x.2.1.2.1, r28.1.1, ())).bind fun r29 =>
      some ((true, ()), (r29.2.1, ()))
     else
      if (x.2.1.1 == (14 : Int)) then
       if 0 ≤ r25.1.1 ∧ r25.1.1 < ((x.1.2.1.length : Nat) : Int) then
        ((x.1.2.1)[(r25.1.1).toNat]?).bind fun y30 =>
        (F_cb (x.1, x.2.1.2.1, y30, ())).bind fun r31 =>
        some ((true, ()), (r31.2.1, ()))
       else none
      else
       if (leI (1000 : Int) r25.1.1) then
        let v32 := (IntKind.i64.wrap (r25.1.1 - (1000 : Int)))
        if 0 ≤ x.2.1.2.1 ∧ x.2.1.2.1 < ((x.1.2.2.2.1.length : Nat) : Int) then
         ((x.1.2.2.2.1)[(x.2.1.2.1).toNat]?).bind fun y33 =>
         (F_cf ((x.1.2.2.2.1, (x.1.2.2.2.2.1, (x.1.2.2.2.2.2.1, (x.1.2.2.2.2.2.2.1, (x.1.2.2.2.2.2.2.2.1, (x.1.2.2.2.2.2.2.2.2.1, (x.1.2.2.2.2.2.2.2.2.2.1, (x.1.2.2.2.2.2.2.2.2.2.2.1, (x.1.2.2.2.2.2.2.2.2.2.2.2.1, ()))))))))), v32, y33, ())).bind fun r34 =>
         some ((true, ()), ((x.1.1, (x.1.2.1, (r34.1.1, (r34.2.1.1, (r34.2.1.2.1, (r34.2.1.2.2.1, (r34.2.1.2.2.2.1, (r34.2.1.2.2.2.2.1, (r34.2.1.2.2.2.2.2.1, (r34.2.1.2.2.2.2.2.2.1, (r34.2.1.2.2.2.2.2.2.2.1, (r34.2.1.2.2.2.2.2.2.2.2.1, (x.1.2.2.2.2.2.2.2.2.2.2.2.2.1, ()))))))))))))), ()))
        else none
       else
        if 0 ≤ x.2.1.2.1 ∧ x.2.1.2.1 < ((x.1.2.2.2.1.length : Nat) : Int) then
         ((x.1.2.2.2.1)[(x.2.1.2.1).toNat]?).bind fun y35 =>
         if 0 ≤ r25.1.1 ∧ r25.1.1 < ((x.1.2.1.length : Nat) : Int) then
          ((x.1.2.1)[(r25.1.1).toNat]?).bind fun y36 =>
          let v37 := (x.1.2.1.set (r25.1.1).toNat y35)
          some ((true, ()), ((x.1.1, (v37, (x.1.2.2.1, (x.1.2.2.2.1, (x.1.2.2.2.2.1, (x.1.2.2.2.2.2.1, (x.1.2.2.2.2.2.2.1, (x.1.2.2.2.2.2.2.2.1, (x.1.2.2.2.2.2.2.2.2.1, (x.1.2.2.2.2.2.2.2.2.2.1, (x.1.2.2.2.2.2.2.2.2.2.2.1, (x.1.2.2.2.2.2.2.2.2.2.2.2.1, (x.1.2.2.2.2.2.2.2.2.2.2.2.2.1, ()))))))))))))), ()))
         else none
        else none
    else
     if (x.2.1.1 == (14 : Int)) then
      if 0 ≤ r25.1.1 ∧ r25.1.1 < ((x.1.2.1.length : Nat) : Int) then
       ((x.1.2.1)[(r25.1.1).toNat]?).bind fun y38 =>
       (F_cb (x.1, x.2.1.2.1, y38, ())).bind fun r39 =>
       some ((true, ()), (r39.2.1, ()))
      else none
     else
      if (leI (1000 : Int) r25.1.1) then
       let v40 := (IntKind.i64.wrap (r25.1.1 - (1000 : Int)))
       if 0 ≤ x.2.1.2.1 ∧ x.2.1.2.1 < ((x.1.2.2.2.1.length : Nat) : Int) then
        ((x.1.2.2.2.1)[(x.2.1.2.1).toNat]?).bind fun y41 =>
        (F_cf ((x.1.2.2.2.1, (x.1.2.2.2.2.1, (x.1.2.2.2.2.2.1, (x.1.2.2.2.2.2.2.1, (x.1.2.2.2.2.2.2.2.1, (x.1.2.2.2.2.2.2.2.2.1, (x.1.2.2.2.2.2.2.2.2.2.1, (x.1.2.2.2.2.2.2.2.2.2.2.1, (x.1.2.2.2.2.2.2.2.2.2.2.2.1, ()))))))))), v40, y41, ())).bind fun r42 =>
        some ((true, ()), ((x.1.1, (x.1.2.1, (r42.1.1, (r42.2.1.1, (r42.2.1.2.1, (r42.2.1.2.2.1, (r42.2.1.2.2.2.1, (r42.2.1.2.2.2.2.1, (r42.2.1.2.2.2.2.2.1, (r42.2.1.2.2.2.2.2.2.1, (r42.2.1.2.2.2.2.2.2.2.1, (r42.2.1.2.2.2.2.2.2.2.2.1, (x.1.2.2.2.2.2.2.2.2.2.2.2.2.1, ()))))))))))))), ()))
       else none
      else
       if 0 ≤ x.2.1.2.1 ∧ x.2.1.2.1 < ((x.1.2.2.2.1.length : Nat) : Int) then
        ((x.1.2.2.2.1)[(x.2.1.2.1).toNat]?).bind fun y43 =>
        if 0 ≤ r25.1.1 ∧ r25.1.1 < ((x.1.2.1.length : Nat) : Int) then
         ((x.1.2.1)[(r25.1.1).toNat]?).bind fun y44 =>
         let v45 := (x.1.2.1.set (r25.1.1).toNat y43)
         some ((true, ()), ((x.1.1, (v45, (x.1.2.2.1, (x.1.2.2.2.1, (x.1.2.2.2.2.1, (x.1.2.2.2.2.2.1, (x.1.2.2.2.2.2.2.1, (x.1.2.2.2.2.2.2.2.1, (x.1.2.2.2.2.2.2.2.2.1, (x.1.2.2.2.2.2.2.2.2.2.1, (x.1.2.2.2.2.2.2.2.2.2.2.1, (x.1.2.2.2.2.2.2.2.2.2.2.2.1, (x.1.2.2.2.2.2.2.2.2.2.2.2.2.1, ()))))))))))))), ()))
        else none
       else none
 else none
abbrev C_cg : Con := ⟨P_cg, R_aa, F_cg, false⟩
abbrev G_cg : Env := [(114, C_bo), (116, C_bv), (155, C_bz), (156, C_ca), (157, C_cb), (181, C_cc), (182, C_cf)]
theorem g_cg : Qe Tryz.prog G_cg := (Qa s_bo (Qa s_bv (Qa s_bz (Qa s_ca (Qa s_cb (Qa s_cc (Qa s_cf Qd)))))))
theorem s_cg : Qb Tryz.prog 158 C_cg := fnC (L := []) hT g_cg Tryz.f158 okP fun _ => by kernel_rfl
def F_ch (x : denP P_am) : FO P_am R_a :=
 let v1 := (IntKind.u32.wrap x.1)
 let v2 := (IntKind.i32.wrap v1)
 let v3 := (IntKind.i64.wrap v2)
 some ((v3, ()), ())
abbrev C_ch : Con := ⟨P_am, R_a, F_ch, false⟩
theorem s_ch : Qb Tryz.prog 183 C_ch := fnC (L := []) hT g_a Tryz.f183 okP fun _ => by kernel_rfl
abbrev P_ci : List PK := [.ptr Y32, .val Y171]
def F_ci (x : denP P_ci) : FO P_ci R_aa :=
 if 0 ≤ x.2.1.2.1 then
  ((x.1.1)[(x.2.1.2.1).toNat]?).bind fun y1 =>
  if 0 ≤ x.2.1.2.2.1 then
   ((x.1.1)[(x.2.1.2.2.1).toNat]?).bind fun y2 =>
   if (x.2.1.1 == (16 : Int)) then
    some (((y1 == y2), ()), ())
   else
    if (x.2.1.1 == (17 : Int)) then
     some (((y1 != y2), ()), ())
    else
     (F_ch (y1, ())).bind fun r3 =>
     (F_ch (y2, ())).bind fun r4 =>
     some (((ltI r3.1.1 r4.1.1), ()), ())
  else none
 else none
abbrev C_ci : Con := ⟨P_ci, R_aa, F_ci, false⟩
abbrev G_ci : Env := [(183, C_ch)]
theorem g_ci : Qe Tryz.prog G_ci := (Qa s_ch Qd)
theorem s_ci : Qb Tryz.prog 159 C_ci := fnC (L := []) hT g_ci Tryz.f159 okP fun _ => by kernel_rfl
abbrev P_cj : List PK := [.ptr Y32, .val YI]
def F_cj (x : denP P_cj) : FO P_cj R_a :=
 if (x.2.1 == (6 : Int)) then
  (F_bl (x.1, ())).bind fun r1 =>
  some ((r1.1.1, ()), ())
 else
  if (x.2.1 == (8 : Int)) then
   some ((x.1.2.2.2.2.2.2.1, ()), ())
  else
   if 0 ≤ x.2.1 then
    ((x.1.2.2.1)[(x.2.1).toNat]?).bind fun y2 =>
    some ((y2, ()), ())
   else none
abbrev C_cj : Con := ⟨P_cj, R_a, F_cj, false⟩
theorem g_cj : Qe Tryz.prog G_bm := (Qa s_bl Qd)
theorem s_cj : Qb Tryz.prog 160 C_cj := fnC (L := []) hT g_cj Tryz.f160 okP fun _ => by kernel_rfl
abbrev P_ck : List PK := [.box [.own 2 YI, .dat YI, .own 2 YI, .dat .bool, .dat .bool, .dat .bool, .dat YI, .dat Y28, .own 2 YI] [.own 2 YI, .dat YI, .own 2 YI, .dat .bool, .dat .bool, .dat .bool, .dat YI, .dat Y28, .own 2 YI]]
def F_ck (x : denP P_ck) : FO P_ck R_bj :=
 if 0 ≤ (2 : Int) ∧ (2 : Int) < ((x.1.2.2.1.length : Nat) : Int) then
  ((x.1.2.2.1)[((2 : Int)).toNat]?).bind fun y1 =>
  if 0 ≤ (0 : Int) ∧ (0 : Int) < ((x.1.2.2.1.length : Nat) : Int) then
   ((x.1.2.2.1)[((0 : Int)).toNat]?).bind fun y2 =>
   let v3 := (IntKind.i64.wrap ((y2).tdiv (2 : Int)))
   let v4 := (IntKind.i64.wrap ((2 : Int) + v3))
   if 0 ≤ (0 : Int) ∧ (0 : Int) < ((x.1.2.2.1.length : Nat) : Int) then
    ((x.1.2.2.1)[((0 : Int)).toNat]?).bind fun y5 =>
    let v6 := (x.1.2.2.1.set ((0 : Int)).toNat v4)
    some ((), ((x.1.1, (y1, (v6, (x.1.2.2.2.1, (x.1.2.2.2.2.1, (x.1.2.2.2.2.2.1, (x.1.2.2.2.2.2.2.1, (x.1.2.2.2.2.2.2.2.1, (x.1.2.2.2.2.2.2.2.2.1, ()))))))))), ()))
   else none
  else none
 else none
abbrev C_ck : Con := ⟨P_ck, R_bj, F_ck, false⟩
theorem s_ck : Qb Tryz.prog 162 C_ck := fnC (L := []) hT g_a Tryz.f162 okP fun _ => by kernel_rfl
def F_cl (x : denP P_bz) : FO P_bz R_a :=
 let v1 := (IntKind.u32.wrap x.1)
 let v2 := (IntKind.u32.wrap x.2.1)
 let v3 := (IntKind.u32.wrap (v1 * v2))
 let v4 := (IntKind.i64.wrap v3)
 some ((v4, ()), ())
abbrev C_cl : Con := ⟨P_bz, R_a, F_cl, false⟩
theorem s_cl : Qb Tryz.prog 185 C_cl := fnC (L := []) hT g_a Tryz.f185 okP fun _ => by kernel_rfl
def F_cm (x : denP P_bz) : FO P_bz R_a :=
 (F_cd (x.2.1, ())).bind fun r1 =>
 if (r1.1.1 == (0 : Int)) then
  some (((4294967295 : Int), ()), ())
 else
  (F_ch (x.1, ())).bind fun r2 =>
  (F_ch (x.2.1, ())).bind fun r3 =>
  if r3.1.1 = 0 then none else
  let v4 := (IntKind.i64.wrap ((r2.1.1).tdiv r3.1.1))
  (F_cd (v4, ())).bind fun r5 =>
  some ((r5.1.1, ()), ())
abbrev C_cm : Con := ⟨P_bz, R_a, F_cm, false⟩
abbrev G_cm : Env := [(183, C_ch), (184, C_cd)]
theorem g_cm : Qe Tryz.prog G_cm := (Qa s_ch (Qa s_cd Qd))
theorem s_cm : Qb Tryz.prog 186 C_cm := fnC (L := []) hT g_cm Tryz.f186 okP fun _ => by kernel_rfl
def F_cn (x : denP P_bz) : FO P_bz R_a :=
 (F_cd (x.2.1, ())).bind fun r1 =>
 if (r1.1.1 == (0 : Int)) then
  (F_cd (x.1, ())).bind fun r2 =>
  some ((r2.1.1, ()), ())
 else
  (F_ch (x.1, ())).bind fun r3 =>
  (F_ch (x.2.1, ())).bind fun r4 =>
  if r4.1.1 = 0 then none else
  let v5 := ((r3.1.1).tmod r4.1.1)
  (F_cd (v5, ())).bind fun r6 =>
  some ((r6.1.1, ()), ())
abbrev C_cn : Con := ⟨P_bz, R_a, F_cn, false⟩
theorem g_cn : Qe Tryz.prog G_cm := (Qa s_ch (Qa s_cd Qd))
theorem s_cn : Qb Tryz.prog 187 C_cn := fnC (L := []) hT g_cn Tryz.f187 okP fun _ => by kernel_rfl
def F_co (x : denP P_aa) : FO P_aa R_p :=
 if (x.1 == (1 : Int)) then
  let v1 := (IntKind.u32.wrap x.2.1)
  let v2 := (IntKind.u32.wrap x.2.2.1)
  let v3 := (iand .u32 v1 v2)
  let v4 := (IntKind.i64.wrap v3)
  some ((((0 : Int), (v4, ())), ()), ())
 else
  if (x.1 == (2 : Int)) then
   let v5 := (IntKind.u32.wrap x.2.1)
   let v6 := (IntKind.u32.wrap x.2.2.1)
   let v7 := (ior .u32 v5 v6)
   let v8 := (IntKind.i64.wrap v7)
   some ((((0 : Int), (v8, ())), ()), ())
  else
   if (x.1 == (3 : Int)) then
    let v9 := (IntKind.u32.wrap x.2.1)
    let v10 := (IntKind.u32.wrap x.2.2.1)
    let v11 := (ixor .u32 v9 v10)
    let v12 := (IntKind.i64.wrap v11)
    some ((((0 : Int), (v12, ())), ()), ())
   else
    some ((((3 : Int), ((0 : Int), ())), ()), ())
abbrev C_co : Con := ⟨P_aa, R_p, F_co, false⟩
theorem s_co : Qb Tryz.prog 188 C_co := fnC (L := []) hT g_a Tryz.f188 okP fun _ => by kernel_rfl
abbrev P_cp : List PK := [.val YI, .val YI, .val .bool]
def F_cp (x : denP P_cp) : FO P_cp R_a :=
 let v1 := (IntKind.u32.wrap x.2.1)
 let v2 := ((v1).tmod (32 : Int))
 let v3 := (IntKind.u64.wrap v2)
 if x.2.2.1 then
  let v4 := (IntKind.u32.wrap x.1)
  if v3 < 0 then none else
  let v5 := (IntKind.u32.wrap (v4 * 2 ^ (min (v3).toNat 32)))
  let v6 := (IntKind.i64.wrap v5)
  some ((v6, ()), ())
 else
  let v7 := (IntKind.u32.wrap x.1)
  if v3 < 0 then none else
  let v8 := ((v7).fdiv (2 ^ (min (v3).toNat 32)))
  let v9 := (IntKind.i64.wrap v8)
  some ((v9, ()), ())
abbrev C_cp : Con := ⟨P_cp, R_a, F_cp, false⟩
theorem s_cp : Qb Tryz.prog 189 C_cp := fnC (L := []) hT g_a Tryz.f189 okP fun _ => by kernel_rfl
def F_cq (x : denP P_aa) : FO P_aa R_a :=
 if (x.1 == (1 : Int)) then
  (F_bz (x.2.1, x.2.2.1, ())).bind fun r1 =>
  some ((r1.1.1, ()), ())
 else
  if (x.1 == (2 : Int)) then
   let v2 := (IntKind.u32.wrap x.2.1)
   let v3 := (IntKind.u32.wrap x.2.2.1)
   let v4 := (IntKind.u32.wrap (v2 - v3))
   let v5 := (IntKind.i64.wrap v4)
   some ((v5, ()), ())
  else
   if (x.1 == (3 : Int)) then
    (F_cl (x.2.1, x.2.2.1, ())).bind fun r6 =>
    some ((r6.1.1, ()), ())
   else
    if (x.1 == (4 : Int)) then
     (F_cm (x.2.1, x.2.2.1, ())).bind fun r7 =>
     some ((r7.1.1, ()), ())
    else
     if (x.1 == (5 : Int)) then
      (F_cn (x.2.1, x.2.2.1, ())).bind fun r8 =>
      some ((r8.1.1, ()), ())
     else
      if (x.1 == (6 : Int)) then
       let v9 := (IntKind.i64.wrap (x.1 - (6 : Int)))
       let v10 := (IntKind.i64.wrap (v9 + (1 : Int)))
       (F_co (v10, x.2.1, x.2.2.1, ())).bind fun r11 =>
       some ((r11.1.1.2.1, ()), ())
      else
       if (x.1 == (7 : Int)) then
        let v12 := (IntKind.i64.wrap (x.1 - (6 : Int)))
        let v13 := (IntKind.i64.wrap (v12 + (1 : Int)))
        (F_co (v13, x.2.1, x.2.2.1, ())).bind fun r14 =>
        some ((r14.1.1.2.1, ()), ())
       else
        if (x.1 == (8 : Int)) then
         let v15 := (IntKind.i64.wrap (x.1 - (6 : Int)))
         let v16 := (IntKind.i64.wrap (v15 + (1 : Int)))
         (F_co (v16, x.2.1, x.2.2.1, ())).bind fun r17 =>
         some ((r17.1.1.2.1, ()), ())
        else
         if (x.1 == (9 : Int)) then
          (F_cp (x.2.1, x.2.2.1, true, ())).bind fun r18 =>
          some ((r18.1.1, ()), ())
         else
          if (x.1 == (10 : Int)) then
           (F_cp (x.2.1, x.2.2.1, false, ())).bind fun r19 =>
           some ((r19.1.1, ()), ())
          else
           (F_ch (x.2.1, ())).bind fun r20 =>
           (F_ch (x.2.2.1, ())).bind fun r21 =>
           if (ltI r20.1.1 r21.1.1) then
            some (((1 : Int), ()), ())
           else
            some (((0 : Int), ()), ())
abbrev C_cq : Con := ⟨P_aa, R_a, F_cq, false⟩
abbrev G_cq : Env := [(155, C_bz), (183, C_ch), (185, C_cl), (186, C_cm), (187, C_cn), (188, C_co), (189, C_cp)]
theorem g_cq : Qe Tryz.prog G_cq := (Qa s_bz (Qa s_ch (Qa s_cl (Qa s_cm (Qa s_cn (Qa s_co (Qa s_cp Qd)))))))
theorem s_cq : Qb Tryz.prog 163 C_cq := fnC (L := []) hT g_cq Tryz.f163 okP fun _ => by kernel_rfl
def F_cr (x : denP P_cg) : FO P_cg R_aa :=
 (F_bz (x.1.2.2.2.2.1, (1 : Int), ())).bind fun r1 =>
 (F_ca (x.2.1.2.2.2.1, ())).bind fun r2 =>
 (F_bz (x.1.2.2.2.2.1, r2.1.1, ())).bind fun r3 =>
 if (x.2.1.1 == (12 : Int)) then
  if 0 ≤ x.2.1.2.2.1 ∧ x.2.1.2.2.1 < ((x.1.2.2.2.1.length : Nat) : Int) then
   ((x.1.2.2.2.1)[(x.2.1.2.2.1).toNat]?).bind fun y4 =>
   (F_ca (x.2.1.2.2.2.1, ())).bind fun r5 =>
   (F_bz (y4, r5.1.1, ())).bind fun r6 =>
   (F_cb (x.1, x.2.1.2.1, r6.1.1, ())).bind fun r7 =>
   some ((true, ()), ((r7.2.1.1, (r7.2.1.2.1, (r7.2.1.2.2.1, (r7.2.1.2.2.2.1, (r1.1.1, (r7.2.1.2.2.2.2.2.1, (r7.2.1.2.2.2.2.2.2.1, (r7.2.1.2.2.2.2.2.2.2.1, (r7.2.1.2.2.2.2.2.2.2.2.1, (r7.2.1.2.2.2.2.2.2.2.2.2.1, (r7.2.1.2.2.2.2.2.2.2.2.2.2.1, (r7.2.1.2.2.2.2.2.2.2.2.2.2.2.1, (r7.2.1.2.2.2.2.2.2.2.2.2.2.2.2.1, ()))))))))))))), ()))
  else none
 else
  if (x.2.1.1 == (13 : Int)) then
   let v8 := (IntKind.i64.wrap (x.2.1.2.2.2.1 * (65536 : Int)))
   (F_cb (x.1, x.2.1.2.1, v8, ())).bind fun r9 =>
   some ((true, ()), ((r9.2.1.1, (r9.2.1.2.1, (r9.2.1.2.2.1, (r9.2.1.2.2.2.1, (r1.1.1, (r9.2.1.2.2.2.2.2.1, (r9.2.1.2.2.2.2.2.2.1, (r9.2.1.2.2.2.2.2.2.2.1, (r9.2.1.2.2.2.2.2.2.2.2.1, (r9.2.1.2.2.2.2.2.2.2.2.2.1, (r9.2.1.2.2.2.2.2.2.2.2.2.2.1, (r9.2.1.2.2.2.2.2.2.2.2.2.2.2.1, (r9.2.1.2.2.2.2.2.2.2.2.2.2.2.2.1, ()))))))))))))), ()))
  else
   if (x.2.1.1 == (14 : Int)) then
    (F_cg (x.1, x.2.1, ())).bind fun r10 =>
    if (!r10.1.1) then
     some ((false, ()), (r10.2.1, ()))
    else
     some ((true, ()), ((r10.2.1.1, (r10.2.1.2.1, (r10.2.1.2.2.1, (r10.2.1.2.2.2.1, (r1.1.1, (r10.2.1.2.2.2.2.2.1, (r10.2.1.2.2.2.2.2.2.1, (r10.2.1.2.2.2.2.2.2.2.1, (r10.2.1.2.2.2.2.2.2.2.2.1, (r10.2.1.2.2.2.2.2.2.2.2.2.1, (r10.2.1.2.2.2.2.2.2.2.2.2.2.1, (r10.2.1.2.2.2.2.2.2.2.2.2.2.2.1, (r10.2.1.2.2.2.2.2.2.2.2.2.2.2.2.1, ()))))))))))))), ()))
   else
    if (x.2.1.1 == (15 : Int)) then
     (F_cg (x.1, x.2.1, ())).bind fun r11 =>
     if (!r11.1.1) then
      some ((false, ()), (r11.2.1, ()))
     else
      some ((true, ()), ((r11.2.1.1, (r11.2.1.2.1, (r11.2.1.2.2.1, (r11.2.1.2.2.2.1, (r1.1.1, (r11.2.1.2.2.2.2.2.1, (r11.2.1.2.2.2.2.2.2.1, (r11.2.1.2.2.2.2.2.2.2.1, (r11.2.1.2.2.2.2.2.2.2.2.1, (r11.2.1.2.2.2.2.2.2.2.2.2.1, (r11.2.1.2.2.2.2.2.2.2.2.2.2.1, (r11.2.1.2.2.2.2.2.2.2.2.2.2.2.1, (r11.2.1.2.2.2.2.2.2.2.2.2.2.2.2.1, ()))))))))))))), ()))
    else
     if (x.2.1.1 == (16 : Int)) then
      (F_ci ((x.1.2.2.2.1, (x.1.2.2.2.2.1, (x.1.2.2.2.2.2.1, (x.1.2.2.2.2.2.2.1, (x.1.2.2.2.2.2.2.2.1, (x.1.2.2.2.2.2.2.2.2.1, (x.1.2.2.2.2.2.2.2.2.2.1, (x.1.2.2.2.2.2.2.2.2.2.2.1, (x.1.2.2.2.2.2.2.2.2.2.2.2.1, ()))))))))), x.2.1, ())).bind fun r12 =>
      if r12.1.1 then
       some ((true, ()), ((x.1.1, (x.1.2.1, (x.1.2.2.1, (x.1.2.2.2.1, (r3.1.1, (x.1.2.2.2.2.2.1, (x.1.2.2.2.2.2.2.1, (x.1.2.2.2.2.2.2.2.1, (x.1.2.2.2.2.2.2.2.2.1, (x.1.2.2.2.2.2.2.2.2.2.1, (x.1.2.2.2.2.2.2.2.2.2.2.1, (x.1.2.2.2.2.2.2.2.2.2.2.2.1, (x.1.2.2.2.2.2.2.2.2.2.2.2.2.1, ()))))))))))))), ()))
      else
       some ((true, ()), ((x.1.1, (x.1.2.1, (x.1.2.2.1, (x.1.2.2.2.1, (r1.1.1, (x.1.2.2.2.2.2.1, (x.1.2.2.2.2.2.2.1, (x.1.2.2.2.2.2.2.2.1, (x.1.2.2.2.2.2.2.2.2.1, (x.1.2.2.2.2.2.2.2.2.2.1, (x.1.2.2.2.2.2.2.2.2.2.2.1, (x.1.2.2.2.2.2.2.2.2.2.2.2.1, (x.1.2.2.2.2.2.2.2.2.2.2.2.2.1, ()))))))))))))), ()))
     else
      if (x.2.1.1 == (17 : Int)) then
       (F_ci ((x.1.2.2.2.1, (x.1.2.2.2.2.1, (x.1.2.2.2.2.2.1, (x.1.2.2.2.2.2.2.1, (x.1.2.2.2.2.2.2.2.1, (x.1.2.2.2.2.2.2.2.2.1, (x.1.2.2.2.2.2.2.2.2.2.1, (x.1.2.2.2.2.2.2.2.2.2.2.1, (x.1.2.2.2.2.2.2.2.2.2.2.2.1, ()))))))))), x.2.1, ())).bind fun r13 =>
       if r13.1.1 then
        some ((true, ()), ((x.1.1, (x.1.2.1, (x.1.2.2.1, (x.1.2.2.2.1, (r3.1.1, (x.1.2.2.2.2.2.1, (x.1.2.2.2.2.2.2.1, (x.1.2.2.2.2.2.2.2.1, (x.1.2.2.2.2.2.2.2.2.1, (x.1.2.2.2.2.2.2.2.2.2.1, (x.1.2.2.2.2.2.2.2.2.2.2.1, (x.1.2.2.2.2.2.2.2.2.2.2.2.1, (x.1.2.2.2.2.2.2.2.2.2.2.2.2.1, ()))))))))))))), ()))
       else
        some ((true, ()), ((x.1.1, (x.1.2.1, (x.1.2.2.1, (x.1.2.2.2.1, (r1.1.1, (x.1.2.2.2.2.2.1, (x.1.2.2.2.2.2.2.1, (x.1.2.2.2.2.2.2.2.1, (x.1.2.2.2.2.2.2.2.2.1, (x.1.2.2.2.2.2.2.2.2.2.1, (x.1.2.2.2.2.2.2.2.2.2.2.1, (x.1.2.2.2.2.2.2.2.2.2.2.2.1, (x.1.2.2.2.2.2.2.2.2.2.2.2.2.1, ()))))))))))))), ()))
      else
       if (x.2.1.1 == (18 : Int)) then
        (F_ci ((x.1.2.2.2.1, (x.1.2.2.2.2.1, (x.1.2.2.2.2.2.1, (x.1.2.2.2.2.2.2.1, (x.1.2.2.2.2.2.2.2.1, (x.1.2.2.2.2.2.2.2.2.1, (x.1.2.2.2.2.2.2.2.2.2.1, (x.1.2.2.2.2.2.2.2.2.2.2.1, (x.1.2.2.2.2.2.2.2.2.2.2.2.1, ()))))))))), x.2.1, ())).bind fun r14 =>
        if r14.1.1 then
         some ((true, ()), ((x.1.1, (x.1.2.1, (x.1.2.2.1, (x.1.2.2.2.1, (r3.1.1, (x.1.2.2.2.2.2.1, (x.1.2.2.2.2.2.2.1, (x.1.2.2.2.2.2.2.2.1, (x.1.2.2.2.2.2.2.2.2.1, (x.1.2.2.2.2.2.2.2.2.2.1, (x.1.2.2.2.2.2.2.2.2.2.2.1, (x.1.2.2.2.2.2.2.2.2.2.2.2.1, (x.1.2.2.2.2.2.2.2.2.2.2.2.2.1, ()))))))))))))), ()))
        else
         some ((true, ()), ((x.1.1, (x.1.2.1, (x.1.2.2.1, (x.1.2.2.2.1, (r1.1.1, (x.1.2.2.2.2.2.1, (x.1.2.2.2.2.2.2.1, (x.1.2.2.2.2.2.2.2.1, (x.1.2.2.2.2.2.2.2.2.1, (x.1.2.2.2.2.2.2.2.2.2.1, (x.1.2.2.2.2.2.2.2.2.2.2.1, (x.1.2.2.2.2.2.2.2.2.2.2.2.1, (x.1.2.2.2.2.2.2.2.2.2.2.2.2.1, ()))))))))))))), ()))
       else
        if (x.2.1.1 == (19 : Int)) then
         (F_cb (x.1, x.2.1.2.1, r1.1.1, ())).bind fun r15 =>
         some ((true, ()), ((r15.2.1.1, (r15.2.1.2.1, (r15.2.1.2.2.1, (r15.2.1.2.2.2.1, (r3.1.1, (r15.2.1.2.2.2.2.2.1, (r15.2.1.2.2.2.2.2.2.1, (r15.2.1.2.2.2.2.2.2.2.1, (r15.2.1.2.2.2.2.2.2.2.2.1, (r15.2.1.2.2.2.2.2.2.2.2.2.1, (r15.2.1.2.2.2.2.2.2.2.2.2.2.1, (r15.2.1.2.2.2.2.2.2.2.2.2.2.2.1, (r15.2.1.2.2.2.2.2.2.2.2.2.2.2.2.1, ()))))))))))))), ()))
        else
         if (x.2.1.1 == (20 : Int)) then
          if 0 ≤ x.2.1.2.2.1 ∧ x.2.1.2.2.1 < ((x.1.2.2.2.1.length : Nat) : Int) then
           ((x.1.2.2.2.1)[(x.2.1.2.2.1).toNat]?).bind fun y16 =>
           (F_ca (x.2.1.2.2.2.1, ())).bind fun r17 =>
           (F_bz (y16, r17.1.1, ())).bind fun r18 =>
           (F_cb (x.1, x.2.1.2.1, r1.1.1, ())).bind fun r19 =>
           some ((true, ()), ((r19.2.1.1, (r19.2.1.2.1, (r19.2.1.2.2.1, (r19.2.1.2.2.2.1, (r18.1.1, (r19.2.1.2.2.2.2.2.1, (r19.2.1.2.2.2.2.2.2.1, (r19.2.1.2.2.2.2.2.2.2.1, (r19.2.1.2.2.2.2.2.2.2.2.1, (r19.2.1.2.2.2.2.2.2.2.2.2.1, (r19.2.1.2.2.2.2.2.2.2.2.2.2.1, (r19.2.1.2.2.2.2.2.2.2.2.2.2.2.1, (r19.2.1.2.2.2.2.2.2.2.2.2.2.2.2.1, ()))))))))))))), ()))
          else none
         else
          if (x.2.1.1 == (21 : Int)) then
           (F_cj ((x.1.2.2.2.1, (x.1.2.2.2.2.1, (x.1.2.2.2.2.2.1, (x.1.2.2.2.2.2.2.1, (x.1.2.2.2.2.2.2.2.1, (x.1.2.2.2.2.2.2.2.2.1, (x.1.2.2.2.2.2.2.2.2.2.1, (x.1.2.2.2.2.2.2.2.2.2.2.1, (x.1.2.2.2.2.2.2.2.2.2.2.2.1, ()))))))))), x.2.1.2.2.2.1, ())).bind fun r20 =>
           (F_cb (x.1, x.2.1.2.1, r20.1.1, ())).bind fun r21 =>
           some ((true, ()), ((r21.2.1.1, (r21.2.1.2.1, (r21.2.1.2.2.1, (r21.2.1.2.2.2.1, (r1.1.1, (r21.2.1.2.2.2.2.2.1, (r21.2.1.2.2.2.2.2.2.1, (r21.2.1.2.2.2.2.2.2.2.1, (r21.2.1.2.2.2.2.2.2.2.2.1, (r21.2.1.2.2.2.2.2.2.2.2.2.1, (r21.2.1.2.2.2.2.2.2.2.2.2.2.1, (r21.2.1.2.2.2.2.2.2.2.2.2.2.2.1, (r21.2.1.2.2.2.2.2.2.2.2.2.2.2.2.1, ()))))))))))))), ()))
          else
           if (x.2.1.1 == (22 : Int)) then
            if 0 ≤ x.2.1.2.2.1 ∧ x.2.1.2.2.1 < ((x.1.2.2.2.1.length : Nat) : Int) then
             ((x.1.2.2.2.1)[(x.2.1.2.2.1).toNat]?).bind fun y22 =>
             (F_ce ((x.1.2.2.2.1, (x.1.2.2.2.2.1, (x.1.2.2.2.2.2.1, (x.1.2.2.2.2.2.2.1, (x.1.2.2.2.2.2.2.2.1, (x.1.2.2.2.2.2.2.2.2.1, (x.1.2.2.2.2.2.2.2.2.2.1, (x.1.2.2.2.2.2.2.2.2.2.2.1, (x.1.2.2.2.2.2.2.2.2.2.2.2.1, ()))))))))), x.2.1.2.2.2.1, y22, ())).bind fun r23 =>
             some ((true, ()), ((x.1.1, (x.1.2.1, (x.1.2.2.1, (r23.2.1.1, (r1.1.1, (r23.2.1.2.2.1, (r23.2.1.2.2.2.1, (r23.2.1.2.2.2.2.1, (r23.2.1.2.2.2.2.2.1, (r23.2.1.2.2.2.2.2.2.1, (r23.2.1.2.2.2.2.2.2.2.1, (r23.2.1.2.2.2.2.2.2.2.2.1, (x.1.2.2.2.2.2.2.2.2.2.2.2.2.1, ()))))))))))))), ()))
            else none
           else
            if (x.2.1.1 == (23 : Int)) then
             (F_bo (x.1, (5 : Int), (0 : Int), ())).bind fun r24 =>
             some ((false, ()), (r24.2.1, ()))
            else
             if (x.2.1.1 == (24 : Int)) then
              (F_ck ((x.1.2.2.2.1, (x.1.2.2.2.2.1, (x.1.2.2.2.2.2.1, (x.1.2.2.2.2.2.2.1, (x.1.2.2.2.2.2.2.2.1, (x.1.2.2.2.2.2.2.2.2.1, (x.1.2.2.2.2.2.2.2.2.2.1, (x.1.2.2.2.2.2.2.2.2.2.2.1, (x.1.2.2.2.2.2.2.2.2.2.2.2.1, ()))))))))), ())).bind fun r25 =>
              some ((true, ()), ((x.1.1, (x.1.2.1, (x.1.2.2.1, (r25.2.1.1, (r25.2.1.2.1, (r25.2.1.2.2.1, (r25.2.1.2.2.2.1, (r25.2.1.2.2.2.2.1, (r25.2.1.2.2.2.2.2.1, (r25.2.1.2.2.2.2.2.2.1, (r25.2.1.2.2.2.2.2.2.2.1, (r25.2.1.2.2.2.2.2.2.2.2.1, (x.1.2.2.2.2.2.2.2.2.2.2.2.2.1, ()))))))))))))), ()))
             else
              if (x.2.1.1 == (25 : Int)) then
               some ((true, ()), ((x.1.1, (x.1.2.1, (x.1.2.2.1, (x.1.2.2.2.1, (r1.1.1, (x.1.2.2.2.2.2.1, (x.1.2.2.2.2.2.2.1, (true, (x.1.2.2.2.2.2.2.2.2.1, (x.1.2.2.2.2.2.2.2.2.2.1, (x.1.2.2.2.2.2.2.2.2.2.2.1, (x.1.2.2.2.2.2.2.2.2.2.2.2.1, (x.1.2.2.2.2.2.2.2.2.2.2.2.2.1, ()))))))))))))), ()))
              else
               if (x.2.1.1 == (26 : Int)) then
                some ((true, ()), ((x.1.1, (x.1.2.1, (x.1.2.2.1, (x.1.2.2.2.1, (x.1.2.2.2.2.1, (x.1.2.2.2.2.2.1, (true, (x.1.2.2.2.2.2.2.2.1, (x.1.2.2.2.2.2.2.2.2.1, (x.1.2.2.2.2.2.2.2.2.2.1, (x.1.2.2.2.2.2.2.2.2.2.2.1, (x.1.2.2.2.2.2.2.2.2.2.2.2.1, (x.1.2.2.2.2.2.2.2.2.2.2.2.2.1, ()))))))))))))), ()))
               else
                if 0 ≤ x.2.1.2.2.1 ∧ x.2.1.2.2.1 < ((x.1.2.2.2.1.length : Nat) : Int) then
                 ((x.1.2.2.2.1)[(x.2.1.2.2.1).toNat]?).bind fun y26 =>
                 if 0 ≤ x.2.1.2.2.2.1 ∧ x.2.1.2.2.2.1 < ((x.1.2.2.2.1.length : Nat) : Int) then
                  ((x.1.2.2.2.1)[(x.2.1.2.2.2.1).toNat]?).bind fun y27 =>
                  (F_cq (x.2.1.1, y26, y27, ())).bind fun r28 =>
                  (F_cb (x.1, x.2.1.2.1, r28.1.1, ())).bind fun r29 =>
                  some ((true, ()), ((r29.2.1.1, (r29.2.1.2.1, (r29.2.1.2.2.1, (r29.2.1.2.2.2.1, (r1.1.1, (r29.2.1.2.2.2.2.2.1, (r29.2.1.2.2.2.2.2.2.1, (r29.2.1.2.2.2.2.2.2.2.1, (r29.2.1.2.2.2.2.2.2.2.2.1, (r29.2.1.2.2.2.2.2.2.2.2.2.1, (r29.2.1.2.2.2.2.2.2.2.2.2.2.1, (r29.2.1.2.2.2.2.2.2.2.2.2.2.2.1, (r29.2.1.2.2.2.2.2.2.2.2.2.2.2.2.1, ()))))))))))))), ()))
                 else none
                else none
abbrev C_cr : Con := ⟨P_cg, R_aa, F_cr, false⟩
abbrev G_cr : Env := [(114, C_bo), (155, C_bz), (156, C_ca), (157, C_cb), (158, C_cg), (159, C_ci), (160, C_cj), (161, C_ce), (162, C_ck), (163, C_cq)]
theorem g_cr : Qe Tryz.prog G_cr := (Qa s_bo (Qa s_bz (Qa s_ca (Qa s_cb (Qa s_cg (Qa s_ci (Qa s_cj (Qa s_ce (Qa s_ck (Qa s_cq Qd))))))))))
theorem s_cr : Qb Tryz.prog 118 C_cr := fnC (L := []) hT g_cr Tryz.f118 okP fun _ => by kernel_rfl
def F_cs (x : denP P_bz) : FO P_bz R_a :=
 if (ltI x.1 x.2.1) then
  some ((x.1, ()), ())
 else
  some ((x.2.1, ()), ())
abbrev C_cs : Con := ⟨P_bz, R_a, F_cs, false⟩
theorem s_cs : Qb Tryz.prog 119 C_cs := fnC (L := []) hT g_a Tryz.f119 okP fun _ => by kernel_rfl
abbrev P_ct : List PK := [.box [.dat Y24, .own 2 YI, .dat YI, .own 2 YI, .dat YI, .own 2 YI, .dat .bool, .dat .bool, .dat .bool, .dat YI, .dat Y28, .own 2 YI, .dat YI] [.dat Y24, .own 2 YI, .dat YI, .own 2 YI, .dat YI, .own 2 YI, .dat .bool, .dat .bool, .dat .bool, .dat YI, .dat Y28, .own 2 YI, .dat YI]]
def F_ct (x : denP P_ct) : FO P_ct R_bj :=
 if x.1.2.2.2.2.2.2.1 then
  some ((), ((x.1.1, (x.1.2.1, ((-1 : Int), (x.1.2.2.2.1, (x.1.2.2.2.2.1, (x.1.2.2.2.2.2.1, (x.1.2.2.2.2.2.2.1, (x.1.2.2.2.2.2.2.2.1, (x.1.2.2.2.2.2.2.2.2.1, (x.1.2.2.2.2.2.2.2.2.2.1, (x.1.2.2.2.2.2.2.2.2.2.2.1, (x.1.2.2.2.2.2.2.2.2.2.2.2.1, ((-1 : Int), ()))))))))))))), ()))
 else
  (F_bm ((x.1.2.2.2.1, (x.1.2.2.2.2.1, (x.1.2.2.2.2.2.1, (x.1.2.2.2.2.2.2.1, (x.1.2.2.2.2.2.2.2.1, (x.1.2.2.2.2.2.2.2.2.1, (x.1.2.2.2.2.2.2.2.2.2.1, (x.1.2.2.2.2.2.2.2.2.2.2.1, (x.1.2.2.2.2.2.2.2.2.2.2.2.1, ()))))))))), ())).bind fun r1 =>
  if (leI (0 : Int) r1.1.1) then
   let v2 := (IntKind.i64.wrap ((16 : Int) + r1.1.1))
   (F_bo ((x.1.1, (x.1.2.1, ((-1 : Int), (x.1.2.2.2.1, (x.1.2.2.2.2.1, (x.1.2.2.2.2.2.1, (x.1.2.2.2.2.2.2.1, (x.1.2.2.2.2.2.2.2.1, (x.1.2.2.2.2.2.2.2.2.1, (x.1.2.2.2.2.2.2.2.2.2.1, (x.1.2.2.2.2.2.2.2.2.2.2.1, (x.1.2.2.2.2.2.2.2.2.2.2.2.1, ((-1 : Int), ()))))))))))))), v2, (0 : Int), ())).bind fun r3 =>
   some ((), (r3.2.1, ()))
  else
   if x.1.2.2.2.2.2.2.2.1 then
    (F_bl ((x.1.2.2.2.1, (x.1.2.2.2.2.1, (x.1.2.2.2.2.2.1, (x.1.2.2.2.2.2.2.1, (x.1.2.2.2.2.2.2.2.1, (x.1.2.2.2.2.2.2.2.2.1, (x.1.2.2.2.2.2.2.2.2.2.1, (x.1.2.2.2.2.2.2.2.2.2.2.1, (x.1.2.2.2.2.2.2.2.2.2.2.2.1, ()))))))))), ())).bind fun r4 =>
    if 0 ≤ (7 : Int) ∧ (7 : Int) < ((x.1.2.2.2.2.2.1.length : Nat) : Int) then
     ((x.1.2.2.2.2.2.1)[((7 : Int)).toNat]?).bind fun y5 =>
     let v6 := (iand .i64 r4.1.1 y5)
     if (v6 == (0 : Int)) then
      some ((), ((x.1.1, (x.1.2.1, ((-1 : Int), (x.1.2.2.2.1, (x.1.2.2.2.2.1, (x.1.2.2.2.2.2.1, (x.1.2.2.2.2.2.2.1, (x.1.2.2.2.2.2.2.2.1, (x.1.2.2.2.2.2.2.2.2.1, (x.1.2.2.2.2.2.2.2.2.2.1, (x.1.2.2.2.2.2.2.2.2.2.2.1, (x.1.2.2.2.2.2.2.2.2.2.2.2.1, ((-1 : Int), ()))))))))))))), ()))
     else
      (F_bv ((x.1.1, (x.1.2.1, ((-1 : Int), ((x.1.2.2.2.1, (x.1.2.2.2.2.1, (x.1.2.2.2.2.2.1, (x.1.2.2.2.2.2.2.1, (false, (x.1.2.2.2.2.2.2.2.2.1, (x.1.2.2.2.2.2.2.2.2.2.1, (x.1.2.2.2.2.2.2.2.2.2.2.1, (x.1.2.2.2.2.2.2.2.2.2.2.2.1, ()))))))))), ((-1 : Int), ()))))), x.1.2.2.2.2.1, (4 : Int), ())).bind fun r7 =>
      if (r7.1.2.1 != (0 : Int)) then
       (F_bo ((x.1.1, (x.1.2.1, ((-1 : Int), (x.1.2.2.2.1, (x.1.2.2.2.2.1, (x.1.2.2.2.2.2.1, (x.1.2.2.2.2.2.2.1, (false, (x.1.2.2.2.2.2.2.2.2.1, (x.1.2.2.2.2.2.2.2.2.2.1, (x.1.2.2.2.2.2.2.2.2.2.2.1, (x.1.2.2.2.2.2.2.2.2.2.2.2.1, ((-1 : Int), ()))))))))))))), (2 : Int), x.1.2.2.2.2.1, ())).bind fun r8 =>
       some ((), (r8.2.1, ()))
      else
       if 0 ≤ r7.1.1 ∧ r7.1.1 < ((x.1.2.1.length : Nat) : Int) then
        ((x.1.2.1)[(r7.1.1).toNat]?).bind fun y9 =>
        (F_by (y9, ())).bind fun r10 =>
        if (!r10.1.2.1) then
         if 0 ≤ r7.1.1 ∧ r7.1.1 < ((x.1.2.1.length : Nat) : Int) then
          ((x.1.2.1)[(r7.1.1).toNat]?).bind fun y11 =>
          (F_bo ((x.1.1, (x.1.2.1, ((-1 : Int), (x.1.2.2.2.1, (x.1.2.2.2.2.1, (x.1.2.2.2.2.2.1, (x.1.2.2.2.2.2.2.1, (false, (x.1.2.2.2.2.2.2.2.2.1, (x.1.2.2.2.2.2.2.2.2.2.1, (x.1.2.2.2.2.2.2.2.2.2.2.1, (x.1.2.2.2.2.2.2.2.2.2.2.2.1, ((-1 : Int), ()))))))))))))), (1 : Int), y11, ())).bind fun r12 =>
          some ((), (r12.2.1, ()))
         else none
        else
         (F_cr ((x.1.1, (x.1.2.1, ((-1 : Int), (x.1.2.2.2.1, (x.1.2.2.2.2.1, (x.1.2.2.2.2.2.1, (x.1.2.2.2.2.2.2.1, (false, (x.1.2.2.2.2.2.2.2.2.1, (x.1.2.2.2.2.2.2.2.2.2.1, (x.1.2.2.2.2.2.2.2.2.2.2.1, (x.1.2.2.2.2.2.2.2.2.2.2.2.1, ((-1 : Int), ()))))))))))))), r10.1.1, ())).bind fun r13 =>
         if r13.1.1 then
          let v14 := (IntKind.i64.wrap (r13.2.1.2.2.2.2.2.2.2.2.2.1 + (1 : Int)))
          (F_cs ((1000000000 : Int), v14, ())).bind fun r15 =>
          some ((), ((r13.2.1.1, (r13.2.1.2.1, (r13.2.1.2.2.1, (r13.2.1.2.2.2.1, (r13.2.1.2.2.2.2.1, (r13.2.1.2.2.2.2.2.1, (r13.2.1.2.2.2.2.2.2.1, (r13.2.1.2.2.2.2.2.2.2.1, (r13.2.1.2.2.2.2.2.2.2.2.1, (r15.1.1, (r13.2.1.2.2.2.2.2.2.2.2.2.2.1, (r13.2.1.2.2.2.2.2.2.2.2.2.2.2.1, (r13.2.1.2.2.2.2.2.2.2.2.2.2.2.2.1, ()))))))))))))), ()))
         else
          some ((), (r13.2.1, ()))
       else none
    else none
   else
    (F_bv ((x.1.1, (x.1.2.1, ((-1 : Int), ((x.1.2.2.2.1, (x.1.2.2.2.2.1, (x.1.2.2.2.2.2.1, (x.1.2.2.2.2.2.2.1, (x.1.2.2.2.2.2.2.2.1, (x.1.2.2.2.2.2.2.2.2.1, (x.1.2.2.2.2.2.2.2.2.2.1, (x.1.2.2.2.2.2.2.2.2.2.2.1, (x.1.2.2.2.2.2.2.2.2.2.2.2.1, ()))))))))), ((-1 : Int), ()))))), x.1.2.2.2.2.1, (4 : Int), ())).bind fun r16 =>
    if (r16.1.2.1 != (0 : Int)) then
     (F_bo ((x.1.1, (x.1.2.1, ((-1 : Int), (x.1.2.2.2.1, (x.1.2.2.2.2.1, (x.1.2.2.2.2.2.1, (x.1.2.2.2.2.2.2.1, (x.1.2.2.2.2.2.2.2.1, (x.1.2.2.2.2.2.2.2.2.1, (x.1.2.2.2.2.2.2.2.2.2.1, (x.1.2.2.2.2.2.2.2.2.2.2.1, (x.1.2.2.2.2.2.2.2.2.2.2.2.1, ((-1 : Int), ()))))))))))))), (2 : Int), x.1.2.2.2.2.1, ())).bind fun r17 =>
     some ((), (r17.2.1, ()))
    else
     if 0 ≤ r16.1.1 ∧ r16.1.1 < ((x.1.2.1.length : Nat) : Int) then
      ((x.1.2.1)[(r16.1.1).toNat]?).bind fun y18 =>
      (F_by (y18, ())).bind fun r19 =>
      if (!r19.1.2.1) then
       if 0 ≤ r16.1.1 ∧ r16.1.1 < ((x.1.2.1.length : Nat) : Int) then
        ((x.1.2.1)[(r16.1.1).toNat]?).bind fun y20 =>
        (F_bo ((x.1.1, (x.1.2.1, ((-1 : Int), (x.1.2.2.2.1, (x.1.2.2.2.2.1, (x.1.2.2.2.2.2.1, (x.1.2.2.2.2.2.2.1, (x.1.2.2.2.2.2.2.2.1, (x.1.2.2.2.2.2.2.2.2.1, (x.1.2.2.2.2.2.2.2.2.2.1, (x.1.2.2.2.2.2.2.2.2.2.2.1, (x.1.2.2.2.2.2.2.2.2.2.2.2.1, ((-1 : Int), ()))))))))))))), (1 : Int), y20, ())).bind fun r21 =>
        some ((), (r21.2.1, ()))
       else none
      else
       (F_cr ((x.1.1, (x.1.2.1, ((-1 : Int), (x.1.2.2.2.1, (x.1.2.2.2.2.1, (x.1.2.2.2.2.2.1, (x.1.2.2.2.2.2.2.1, (x.1.2.2.2.2.2.2.2.1, (x.1.2.2.2.2.2.2.2.2.1, (x.1.2.2.2.2.2.2.2.2.2.1, (x.1.2.2.2.2.2.2.2.2.2.2.1, (x.1.2.2.2.2.2.2.2.2.2.2.2.1, ((-1 : Int), ()))))))))))))), r19.1.1, ())).bind fun r22 =>
       if r22.1.1 then
        let v23 := (IntKind.i64.wrap (r22.2.1.2.2.2.2.2.2.2.2.2.1 + (1 : Int)))
        (F_cs ((1000000000 : Int), v23, ())).bind fun r24 =>
        some ((), ((r22.2.1.1, (r22.2.1.2.1, (r22.2.1.2.2.1, (r22.2.1.2.2.2.1, (r22.2.1.2.2.2.2.1, (r22.2.1.2.2.2.2.2.1, (r22.2.1.2.2.2.2.2.2.1, (r22.2.1.2.2.2.2.2.2.2.1, (r22.2.1.2.2.2.2.2.2.2.2.1, (r24.1.1, (r22.2.1.2.2.2.2.2.2.2.2.2.2.1, (r22.2.1.2.2.2.2.2.2.2.2.2.2.2.1, (r22.2.1.2.2.2.2.2.2.2.2.2.2.2.2.1, ()))))))))))))), ()))
       else
        some ((), (r22.2.1, ()))
     else none
abbrev C_ct : Con := ⟨P_ct, R_bj, F_ct, false⟩
abbrev G_ct : Env := [(113, C_bm), (114, C_bo), (115, C_bl), (116, C_bv), (117, C_by), (118, C_cr), (119, C_cs)]
theorem g_ct : Qe Tryz.prog G_ct := (Qa s_bm (Qa s_bo (Qa s_bl (Qa s_bv (Qa s_by (Qa s_cr (Qa s_cs Qd)))))))
theorem s_ct : Qb Tryz.prog 70 C_ct := fnC (L := []) hT g_ct Tryz.f70 okP fun _ => by kernel_rfl
abbrev R_cu : List VK := [.g [.dat YI, .own 2 YI, .dat YI, .own 2 YI, .dat .bool, .dat .bool, .dat .bool, .dat YI, .dat Y28, .own 2 YI, .own 139 Y76, .own 2 YI]]
abbrev i_cu_9 : Shp := { slots := [(1, .s (.dat YI)), (4, .s (.ptr 4 0)), (6, .s (.ptr 6 0)), (7, .s (.ptr 1227000 0)), (8, .s (.dat YI))], boxes := [(4, [.dat YI, .own 2 YI, .dat YI, .own 2 YI, .dat .bool, .dat .bool, .dat .bool, .dat YI, .own 2 YI, .own 2 YI, .own 139 Y76, .own 2 YI]), (6, [.own 2 YI, .dat YI, .own 2 YI, .dat .bool, .dat .bool, .dat .bool, .dat YI, .own 2 YI, .own 2 YI, .own 139 Y76, .own 2 YI]), (1227000, [.dat Y24, .own 2 YI, .dat YI, .own 2 YI, .dat YI, .own 2 YI, .dat .bool, .dat .bool, .dat .bool, .dat YI, .dat Y28, .own 2 YI, .dat YI])], rows := [] }
abbrev o_cu_9 : List (Ex × Shp) := [(.exit 0, { slots := [(4, .s (.ptr 4 0)), (6, .s (.ptr 6 0)), (7, .s (.ptr 1227000 0))], boxes := [(4, [.dat YI, .own 2 YI, .dat YI, .own 2 YI, .dat .bool, .dat .bool, .dat .bool, .dat YI, .own 2 YI, .own 2 YI, .own 139 Y76, .own 2 YI]), (6, [.own 2 YI, .dat YI, .own 2 YI, .dat .bool, .dat .bool, .dat .bool, .dat YI, .own 2 YI, .own 2 YI, .own 139 Y76, .own 2 YI]), (1227000, [.dat Y24, .own 2 YI, .dat YI, .own 2 YI, .dat YI, .own 2 YI, .dat .bool, .dat .bool, .dat .bool, .dat YI, .dat Y28, .own 2 YI, .dat YI])], rows := [] })]
def l_cu_9 (rec : i_cu_9.den → Option (denO o_cu_9)) (u : i_cu_9.den) : Option (denO o_cu_9) :=
 if (ltI u.1.2.2.2.2.1 u.1.1) then
  (F_ct (u.2.1.2.2.1, ())).bind fun r6 =>
  let v7 := (IntKind.i64.wrap (u.1.2.2.2.2.1 + (1 : Int)))
  rec ((u.1.1, ((), ((), ((), (v7, ()))))), ((u.2.1.1, (u.2.1.2.1, (r6.2.1, ()))), ()))
 else
  some (.inl (((), ((), ((), ()))), ((u.2.1.1, (u.2.1.2.1, (u.2.1.2.2.1, ()))), ())))
def L_cu_9 (x : i_cu_9.den) : Option (denO o_cu_9) := Qc l_cu_9 lots x
def F_cu (x : denP P_k) : FO P_k R_cu :=
 (F_at (x.1, ())).bind fun r1 =>
 if (r1.1.1 != (0 : Int)) then
  some (((r1.1.1, (([] : List (den YI)), ((0 : Int), (([] : List (den YI)), (false, (false, (false, ((0 : Int), (([] : List (den YI)), (([] : List (den YI)), (([] : List (den Y76)), (([] : List (den YI)), ())))))))))))), ()), ())
 else
  (F_aa (x.2.1, (0 : Int), (500 : Int), ())).bind fun r2 =>
  if (!r2.1.1) then
   some ((((3 : Int), (([] : List (den YI)), ((0 : Int), (([] : List (den YI)), (false, (false, (false, ((0 : Int), (([] : List (den YI)), (([] : List (den YI)), (([] : List (den Y76)), (([] : List (den YI)), ())))))))))))), ()), ())
  else
   (F_az (x.1, ())).bind fun r3 =>
   (F_bk (x.1.1, x.1.2.1, x.1.2.2.1, ())).bind fun r4 =>
   (L_cu_9 ((x.2.1, ((), ((), ((), ((0 : Int), ()))))), ((((0 : Int), (([] : List (den YI)), ((0 : Int), (([] : List (den YI)), (false, (false, (false, ((0 : Int), (([] : List (den YI)), (([] : List (den YI)), (([] : List (den Y76)), (([] : List (den YI)), ())))))))))))), (r3.1.1, (r4.1.1, ()))), ()))).bind fun z8 =>
   match z8 with
   | .inl x9 =>
    some ((((0 : Int), (x9.2.1.2.2.1.2.2.2.1, (x9.2.1.2.2.1.2.2.2.2.1, (x9.2.1.2.2.1.2.2.2.2.2.1, (x9.2.1.2.2.1.2.2.2.2.2.2.1, (x9.2.1.2.2.1.2.2.2.2.2.2.2.1, (x9.2.1.2.2.1.2.2.2.2.2.2.2.2.1, (x9.2.1.2.2.1.2.2.2.2.2.2.2.2.2.1, (x9.2.1.2.2.1.2.2.2.2.2.2.2.2.2.2.1, (x9.2.1.2.2.1.2.2.2.2.2.2.2.2.2.2.2.1, (x9.2.1.2.1.2.2.2.2.2.2.2.2.2.1, (x9.2.1.2.2.1.2.1, ())))))))))))), ()), ())
   | .inr z8_ =>
    none
abbrev C_cu : Con := ⟨P_k, R_cu, F_cu, false⟩
abbrev G_cu : Env := [(20, C_at), (24, C_az), (59, C_aa), (69, C_bk), (70, C_ct)]
theorem g_cu : Qe Tryz.prog G_cu := (Qa s_at (Qa s_az (Qa s_aa (Qa s_bk (Qa s_ct Qd)))))
abbrev c_cu_9 : Cut := ⟨i_cu_9, o_cu_9, fun x => Qc l_cu_9 lots x⟩
theorem k_cu_9 : Qo Tryz.prog 47 (.loop (nav Tryz.f28 [1, 1, 1, 1, 1, 0, 1, 0, 0])) c_cu_9 :=
  Qf (L := []) hT g_cu (fun _ _ => by kernel_rfl) okP _
theorem r_cu (x) : Qv T G_cu [(9, c_cu_9)] Tryz.f28 C_cu.ps C_cu.rs x = C_cu.F x := by kernel_rfl
theorem s_cu : Qb Tryz.prog 28 C_cu := fnC (L := [(9, c_cu_9)]) hT g_cu Tryz.f28 (okS okP (okS okP (okS okP (okS okP (okS okP (okS (okS okP (okB (okU k_cu_9))) okP)))))) r_cu
abbrev i_cv_11 : Shp := { slots := [(0, .s (.pd Y26)), (1, .s (.dat YI)), (5, .s (.own 139 Y76)), (8, .s (.dat YI))], boxes := [], rows := [] }
abbrev o_cv_11 : List (Ex × Shp) := [(.exit 4, { slots := [(5, .s (.own 139 Y76))], boxes := [], rows := [] })]
def l_cv_11 (rec : i_cv_11.den → Option (denO o_cv_11)) (u : i_cv_11.den) : Option (denO o_cv_11) :=
 let v24 := ((u.1.1.2.1.length : Nat) : Int)
 if (ltI u.1.2.2.2.1 v24) then
  if 0 ≤ u.1.2.2.2.1 then
   ((u.1.1.2.1)[(u.1.2.2.2.1).toNat]?).bind fun y25 =>
   if (y25.1 == u.1.2.1) then
    if 0 ≤ y25.2.2.2.1 ∧ y25.2.2.2.1 < ((u.1.2.2.1.length : Nat) : Int) then
     ((u.1.2.2.1)[(y25.2.2.2.1).toNat]?).bind fun y26 =>
     let v27 := (u.1.2.2.1.set (y25.2.2.2.1).toNat (y25.2.2.1, ((3 : Int), ())))
     if (y25.2.1 == u.1.2.1) then
      if 0 ≤ y25.2.2.2.2.1 ∧ y25.2.2.2.2.1 < ((v27.length : Nat) : Int) then
       ((v27)[(y25.2.2.2.2.1).toNat]?).bind fun y28 =>
       let v29 := (v27.set (y25.2.2.2.2.1).toNat (y25.2.2.1, ((1 : Int), ())))
       let v30 := (IntKind.i64.wrap (u.1.2.2.2.1 + (1 : Int)))
       rec ((u.1.1, (u.1.2.1, (v29, (v30, ())))), ((), ()))
      else none
     else
      let v31 := (IntKind.i64.wrap (u.1.2.2.2.1 + (1 : Int)))
      rec ((u.1.1, (u.1.2.1, (v27, (v31, ())))), ((), ()))
    else none
   else
    if (y25.2.1 == u.1.2.1) then
     if 0 ≤ y25.2.2.2.2.1 ∧ y25.2.2.2.2.1 < ((u.1.2.2.1.length : Nat) : Int) then
      ((u.1.2.2.1)[(y25.2.2.2.2.1).toNat]?).bind fun y32 =>
      let v33 := (u.1.2.2.1.set (y25.2.2.2.2.1).toNat (y25.2.2.1, ((1 : Int), ())))
      let v34 := (IntKind.i64.wrap (u.1.2.2.2.1 + (1 : Int)))
      rec ((u.1.1, (u.1.2.1, (v33, (v34, ())))), ((), ()))
     else none
    else
     let v35 := (IntKind.i64.wrap (u.1.2.2.2.1 + (1 : Int)))
     rec ((u.1.1, (u.1.2.1, (u.1.2.2.1, (v35, ())))), ((), ()))
  else none
 else
  some (.inl ((u.1.2.2.1, ()), ((), ())))
def L_cv_11 (x : i_cv_11.den) : Option (denO o_cv_11) := Qc l_cv_11 lots x
abbrev i_cv_7 : Shp := { slots := [(0, .s (.pd Y26)), (1, .s (.dat YI)), (5, .s (.own 139 Y76)), (7, .s (.dat YI))], boxes := [], rows := [] }
abbrev o_cv_7 : List (Ex × Shp) := [(.exit 2, { slots := [(0, .s (.pd Y26)), (1, .s (.dat YI)), (5, .s (.own 139 Y76))], boxes := [], rows := [] })]
def l_cv_7 (rec : i_cv_7.den → Option (denO o_cv_7)) (u : i_cv_7.den) : Option (denO o_cv_7) :=
 if 0 ≤ u.1.2.1 then
  ((u.1.1.1)[(u.1.2.1).toNat]?).bind fun y11 =>
  let v12 := ((y11.length : Nat) : Int)
  if (ltI u.1.2.2.2.1 v12) then
   if 0 ≤ u.1.2.1 then
    ((u.1.1.1)[(u.1.2.1).toNat]?).bind fun y13 =>
    if 0 ≤ u.1.2.2.2.1 then
     ((y13)[(u.1.2.2.2.1).toNat]?).bind fun y14 =>
     if 0 ≤ u.1.2.2.2.1 ∧ u.1.2.2.2.1 < ((u.1.2.2.1.length : Nat) : Int) then
      ((u.1.2.2.1)[(u.1.2.2.2.1).toNat]?).bind fun y15 =>
      let v16 := (u.1.2.2.1.set (u.1.2.2.2.1).toNat (y14, ((7 : Int), ())))
      let v17 := (IntKind.i64.wrap (u.1.2.2.2.1 + (1 : Int)))
      rec ((u.1.1, (u.1.2.1, (v16, (v17, ())))), ((), ()))
     else none
    else none
   else none
  else
   some (.inl ((u.1.1, (u.1.2.1, (u.1.2.2.1, ()))), ((), ())))
 else none
def L_cv_7 (x : i_cv_7.den) : Option (denO o_cv_7) := Qc l_cv_7 lots x
abbrev i_cv_3 : Shp := { slots := [(0, .s (.pd Y26)), (1, .s (.dat YI)), (5, .s (.own 139 Y76)), (6, .s (.dat YI))], boxes := [], rows := [] }
abbrev o_cv_3 : List (Ex × Shp) := [(.exit 0, { slots := [(0, .s (.pd Y26)), (1, .s (.dat YI)), (5, .s (.own 139 Y76))], boxes := [], rows := [] })]
def l_cv_3 (rec : i_cv_3.den → Option (denO o_cv_3)) (u : i_cv_3.den) : Option (denO o_cv_3) :=
 if (ltI u.1.2.2.2.1 (8 : Int)) then
  (F_bq ()).bind fun r2 =>
  if (u.1.2.2.1.length + [r2.1.1].length) * 16 ≤ 140737488355328 then
   let v3 := (u.1.2.2.1 ++ [r2.1.1])
   let v4 := (IntKind.i64.wrap (u.1.2.2.2.1 + (1 : Int)))
   rec ((u.1.1, (u.1.2.1, (v3, (v4, ())))), ((), ()))
  else none
 else
  some (.inl ((u.1.1, (u.1.2.1, (u.1.2.2.1, ()))), ((), ())))
def L_cv_3 (x : i_cv_3.den) : Option (denO o_cv_3) := Qc l_cv_3 lots x
def F_cv (x : denP P_ad) : FO P_ad R_y :=
 (L_cv_3 ((x.1, (x.2.1, (([] : List (den Y76)), ((0 : Int), ())))), ((), ()))).bind fun z5 =>
 match z5 with
 | .inl x6 =>
  (L_cv_7 ((x6.1.1, (x6.1.2.1, (x6.1.2.2.1, ((0 : Int), ())))), ((), ()))).bind fun z18 =>
  match z18 with
  | .inl x19 =>
   (L_cv_11 ((x19.1.1, (x19.1.2.1, (x19.1.2.2.1, ((0 : Int), ())))), ((), ()))).bind fun z36 =>
   match z36 with
   | .inl x37 =>
    some ((x37.1.1, ()), ())
   | .inr z36_ =>
    none
  | .inr z18_ =>
   none
 | .inr z5_ =>
  none
abbrev C_cv : Con := ⟨P_ad, R_y, F_cv, false⟩
theorem g_cv : Qe Tryz.prog G_br := (Qa s_bq Qd)
abbrev c_cv_11 : Cut := ⟨i_cv_11, o_cv_11, fun x => Qc l_cv_11 lots x⟩
theorem k_cv_11 : Qo Tryz.prog 84 (.loop (nav Tryz.f71 [1, 1, 1, 1, 0, 1, 0, 0])) c_cv_11 :=
  Qf (L := []) hT g_cv (fun _ _ => by kernel_rfl) okP _
abbrev c_cv_7 : Cut := ⟨i_cv_7, o_cv_7, fun x => Qc l_cv_7 lots x⟩
theorem k_cv_7 : Qo Tryz.prog 84 (.loop (nav Tryz.f71 [1, 1, 1, 0, 1, 0, 0])) c_cv_7 :=
  Qf (L := []) hT g_cv (fun _ _ => by kernel_rfl) okP _
abbrev c_cv_3 : Cut := ⟨i_cv_3, o_cv_3, fun x => Qc l_cv_3 lots x⟩
theorem k_cv_3 : Qo Tryz.prog 84 (.loop (nav Tryz.f71 [1, 1, 0, 1, 0, 0])) c_cv_3 :=
  Qf (L := []) hT g_cv (fun _ _ => by kernel_rfl) okP _
theorem r_cv (x) : Qv T G_br [(11, c_cv_11), (7, c_cv_7), (3, c_cv_3)] Tryz.f71 C_cv.ps C_cv.rs x = C_cv.F x := by kernel_rfl
theorem s_cv : Qb Tryz.prog 71 C_cv := fnC (L := [(11, c_cv_11), (7, c_cv_7), (3, c_cv_3)]) hT g_cv Tryz.f71 (okS okP (okS okP (okS (okS okP (okB (okU k_cv_3))) (okS (okS okP (okB (okU k_cv_7))) (okS (okS okP (okB (okU k_cv_11))) okP))))) r_cv
abbrev P_cw : List PK := [.box [.dat Y22, .dat Y23, .dat Y24, .dat Y24, .own 2 YI, .own 51 Y32, .dat YI, .dat YI, .dat YI] [.dat Y22, .dat Y23, .dat Y24, .dat Y24, .own 2 YI, .own 51 Y32, .dat YI, .dat YI, .dat YI], .val YI, .val YI]
abbrev i_cw_1 : Shp := { slots := [(0, .s (.ptr 9000000 0)), (1, .s (.dat YI)), (2, .s (.dat YI)), (6, .s (.dat YI))], boxes := [(9000000, [.dat Y22, .dat Y23, .dat Y24, .dat Y24, .own 2 YI, .own 51 Y32, .dat YI, .dat YI, .dat YI])], rows := [] }
abbrev o_cw_1 : List (Ex × Shp) := [(.exit 0, { slots := [], boxes := [(9000000, [.dat Y22, .dat Y23, .dat Y24, .dat Y24, .own 2 YI, .own 51 Y32, .dat YI, .dat YI, .dat YI])], rows := [] })]
def l_cw_1 (rec : i_cw_1.den → Option (denO o_cw_1)) (u : i_cw_1.den) : Option (denO o_cw_1) :=
 let v3 := ((u.2.1.1.2.2.1.length : Nat) : Int)
 if (ltI u.1.2.2.2.1 v3) then
  if 0 ≤ u.1.2.2.2.1 then
   ((u.2.1.1.2.2.1)[(u.1.2.2.2.1).toNat]?).bind fun y4 =>
   if (y4.1 == u.1.2.1) = true then
    if (y4.2.1 == u.1.2.2.1) then
     if 0 ≤ u.1.2.2.1 ∧ u.1.2.2.1 < ((u.2.1.1.2.2.2.2.2.1.length : Nat) : Int) then
      ((u.2.1.1.2.2.2.2.2.1)[(u.1.2.2.1).toNat]?).bind fun y5 =>
      let v6 := (u.2.1.1.2.2.2.2.2.1.set (u.1.2.2.1).toNat (y5.1, (y5.2.1, (y5.2.2.1, (y5.2.2.2.1, (y5.2.2.2.2.1, (true, y5.2.2.2.2.2.2)))))))
      let v7 := (IntKind.i64.wrap (u.1.2.2.2.1 + (1 : Int)))
      rec (((), (u.1.2.1, (u.1.2.2.1, (v7, ())))), (((u.2.1.1.1, (u.2.1.1.2.1, (u.2.1.1.2.2.1, (u.2.1.1.2.2.2.1, (u.2.1.1.2.2.2.2.1, (v6, (u.2.1.1.2.2.2.2.2.2.1, (u.2.1.1.2.2.2.2.2.2.2.1, (u.2.1.1.2.2.2.2.2.2.2.2.1, ()))))))))), ()), ()))
     else none
    else
     let v8 := (IntKind.i64.wrap (u.1.2.2.2.1 + (1 : Int)))
     rec (((), (u.1.2.1, (u.1.2.2.1, (v8, ())))), ((u.2.1.1, ()), ()))
   else
    let v9 := (IntKind.i64.wrap (u.1.2.2.2.1 + (1 : Int)))
    rec (((), (u.1.2.1, (u.1.2.2.1, (v9, ())))), ((u.2.1.1, ()), ()))
  else none
 else
  some (.inl ((), ((u.2.1.1, ()), ())))
def L_cw_1 (x : i_cw_1.den) : Option (denO o_cw_1) := Qc l_cw_1 lots x
def F_cw (x : denP P_cw) : FO P_cw R_bj :=
 (L_cw_1 (((), (x.2.1, (x.2.2.1, ((0 : Int), ())))), ((x.1, ()), ()))).bind fun z10 =>
 match z10 with
 | .inl x11 =>
  some ((), (x11.2.1.1, ()))
 | .inr z10_ =>
  none
abbrev C_cw : Con := ⟨P_cw, R_bj, F_cw, false⟩
abbrev c_cw_1 : Cut := ⟨i_cw_1, o_cw_1, fun x => Qc l_cw_1 lots x⟩
theorem k_cw_1 : Qo Tryz.prog 43 (.loop (nav Tryz.f72 [1, 0, 0])) c_cw_1 :=
  Qf (L := []) hT g_a (fun _ _ => by kernel_rfl) okP _
theorem r_cw (x) : Qv T G_a [(1, c_cw_1)] Tryz.f72 C_cw.ps C_cw.rs x = C_cw.F x := by kernel_rfl
theorem s_cw : Qb Tryz.prog 72 C_cw := fnC (L := [(1, c_cw_1)]) hT g_a Tryz.f72 (okS okP (okB (okU k_cw_1))) r_cw
abbrev P_cx : List PK := [.box [.dat Y22, .dat Y23, .dat Y24, .dat Y24, .own 2 YI, .own 51 Y32, .dat YI, .dat YI, .dat YI] [.dat Y22, .dat Y23, .dat Y24, .dat Y24, .own 2 YI, .own 51 Y32, .dat YI, .dat YI, .dat YI]]
def F_cx (x : denP P_cx) : FO P_cx R_bj :=
 if 0 ≤ x.1.2.2.2.2.2.2.1 then
  ((x.1.2.2.2.1)[(x.1.2.2.2.2.2.2.1).toNat]?).bind fun y1 =>
  if 0 ≤ y1.1 ∧ y1.1 < ((x.1.2.2.2.2.2.1.length : Nat) : Int) then
   ((x.1.2.2.2.2.2.1)[(y1.1).toNat]?).bind fun y2 =>
   (F_cv ((x.1.1, (x.1.2.1, (x.1.2.2.1, (x.1.2.2.2.1, ())))), y1.1, ())).bind fun r3 =>
   (F_bk (y2, r3.1.1, x.1.2.2.2.2.1, ())).bind fun r4 =>
   (F_ct (r4.1.1, ())).bind fun r5 =>
   if 0 ≤ y1.1 ∧ y1.1 < ((x.1.2.2.2.2.2.1.length : Nat) : Int) then
    ((x.1.2.2.2.2.2.1)[(y1.1).toNat]?).bind fun y6 =>
    let v7 := (x.1.2.2.2.2.2.1.set (y1.1).toNat (r5.2.1.2.2.2.1, (r5.2.1.2.2.2.2.1, (r5.2.1.2.2.2.2.2.1, (r5.2.1.2.2.2.2.2.2.1, (r5.2.1.2.2.2.2.2.2.2.1, (r5.2.1.2.2.2.2.2.2.2.2.1, (r5.2.1.2.2.2.2.2.2.2.2.2.1, (r5.2.1.2.2.2.2.2.2.2.2.2.2.1, (r5.2.1.2.2.2.2.2.2.2.2.2.2.2.1, ()))))))))))
    if (leI (0 : Int) r5.2.1.2.2.1) then
     (F_cw ((x.1.1, (x.1.2.1, (x.1.2.2.1, (x.1.2.2.2.1, (r5.2.1.2.1, (v7, (x.1.2.2.2.2.2.2.1, (x.1.2.2.2.2.2.2.2.1, (x.1.2.2.2.2.2.2.2.2.1, ()))))))))), y1.1, r5.2.1.2.2.1, ())).bind fun r8 =>
     let v9 := (IntKind.i64.wrap (r8.2.1.2.2.2.2.2.2.2.2.1 + (1 : Int)))
     let v10 := (IntKind.i64.wrap (r8.2.1.2.2.2.2.2.2.2.1 - (1 : Int)))
     if (v10 == (0 : Int)) then
      let v11 := (IntKind.i64.wrap (r8.2.1.2.2.2.2.2.2.1 + (1 : Int)))
      let v12 := ((r8.2.1.2.2.2.1.length : Nat) : Int)
      if v12 = 0 then none else
      let v13 := ((v11).tmod v12)
      if 0 ≤ v13 then
       ((r8.2.1.2.2.2.1)[(v13).toNat]?).bind fun y14 =>
       some ((), ((r8.2.1.1, (r8.2.1.2.1, (r8.2.1.2.2.1, (r8.2.1.2.2.2.1, (r8.2.1.2.2.2.2.1, (r8.2.1.2.2.2.2.2.1, (v13, (y14.2.1, (v9, ()))))))))), ()))
      else none
     else
      some ((), ((r8.2.1.1, (r8.2.1.2.1, (r8.2.1.2.2.1, (r8.2.1.2.2.2.1, (r8.2.1.2.2.2.2.1, (r8.2.1.2.2.2.2.2.1, (r8.2.1.2.2.2.2.2.2.1, (v10, (v9, ()))))))))), ()))
    else
     let v15 := (IntKind.i64.wrap (x.1.2.2.2.2.2.2.2.2.1 + (1 : Int)))
     let v16 := (IntKind.i64.wrap (x.1.2.2.2.2.2.2.2.1 - (1 : Int)))
     if (v16 == (0 : Int)) then
      let v17 := (IntKind.i64.wrap (x.1.2.2.2.2.2.2.1 + (1 : Int)))
      let v18 := ((x.1.2.2.2.1.length : Nat) : Int)
      if v18 = 0 then none else
      let v19 := ((v17).tmod v18)
      if 0 ≤ v19 then
       ((x.1.2.2.2.1)[(v19).toNat]?).bind fun y20 =>
       some ((), ((x.1.1, (x.1.2.1, (x.1.2.2.1, (x.1.2.2.2.1, (r5.2.1.2.1, (v7, (v19, (y20.2.1, (v15, ()))))))))), ()))
      else none
     else
      some ((), ((x.1.1, (x.1.2.1, (x.1.2.2.1, (x.1.2.2.2.1, (r5.2.1.2.1, (v7, (x.1.2.2.2.2.2.2.1, (v16, (v15, ()))))))))), ()))
   else none
  else none
 else none
abbrev C_cx : Con := ⟨P_cx, R_bj, F_cx, false⟩
abbrev G_cx : Env := [(69, C_bk), (70, C_ct), (71, C_cv), (72, C_cw)]
theorem g_cx : Qe Tryz.prog G_cx := (Qa s_bk (Qa s_ct (Qa s_cv (Qa s_cw Qd))))
theorem s_cx : Qb Tryz.prog 29 C_cx := fnC (L := []) hT g_cx Tryz.f29 okP fun _ => by kernel_rfl
abbrev P_cy : List PK := [.val Y30, .val Y35, .val YI, .val YI]
abbrev i_cy_21 : Shp := { slots := [(2, .s (.dat YI)), (3, .s (.dat YI)), (8, .s (.ptr 8 0)), (11, .s (.ptr 11 0)), (12, .s (.ptr 12 0)), (13, .s (.dat YI)), (14, .s (.dat YI))], boxes := [(8, [.dat YI, .dat YI, .dat .bool]), (11, [.dat Y22, .dat Y23, .dat Y24, .dat Y24, .own 2 YI, .own 51 Y32, .dat YI, .dat YI, .dat YI]), (12, [.dat Y28, .dat YI, .dat Y28, .dat .bool, .dat .bool, .dat .bool, .dat YI, .dat Y28, .dat Y28, .dat Y24, .own 2 YI])], rows := [] }
abbrev o_cy_21 : List (Ex × Shp) := [(.exit 2, { slots := [(2, .s (.dat YI)), (3, .s (.dat YI)), (8, .s (.ptr 8 0)), (11, .s (.ptr 11 0)), (12, .s (.ptr 12 0)), (13, .s (.dat YI))], boxes := [(8, [.dat YI, .dat YI, .dat .bool]), (11, [.dat Y22, .dat Y23, .dat Y24, .dat Y24, .own 2 YI, .own 51 Y32, .dat YI, .dat YI, .dat YI]), (12, [.dat Y28, .dat YI, .dat Y28, .dat .bool, .dat .bool, .dat .bool, .dat YI, .dat Y28, .dat Y28, .dat Y24, .own 2 YI])], rows := [] })]
def l_cy_21 (rec : i_cy_21.den → Option (denO o_cy_21)) (u : i_cy_21.den) : Option (denO o_cy_21) :=
 let v47 := ((u.2.1.2.1.2.1.length : Nat) : Int)
 if (ltI u.1.2.2.2.2.2.2.1 v47) then
  if 0 ≤ u.1.2.2.2.2.2.2.1 then
   ((u.2.1.2.1.2.1)[(u.1.2.2.2.2.2.2.1).toNat]?).bind fun y48 =>
   if (y48.2.1 == u.1.1) then
    (F_ba (u.2.1.2.1.2.2.2.2.1, [y48.2.2.1], ())).bind fun r49 =>
    (F_bj (u.2.1.2.2.1, y48.2.2.2.2.1, r49.1.1, ())).bind fun r50 =>
    let v51 := (IntKind.i64.wrap (u.1.2.2.2.2.2.2.1 + (1 : Int)))
    rec ((u.1.1, (u.1.2.1, ((), ((), ((), (u.1.2.2.2.2.2.1, (v51, ()))))))), ((u.2.1.1, (u.2.1.2.1, (r50.2.1, ()))), ()))
   else
    let v52 := (IntKind.i64.wrap (u.1.2.2.2.2.2.2.1 + (1 : Int)))
    rec ((u.1.1, (u.1.2.1, ((), ((), ((), (u.1.2.2.2.2.2.1, (v52, ()))))))), ((u.2.1.1, (u.2.1.2.1, (u.2.1.2.2.1, ()))), ()))
  else none
 else
  some (.inl ((u.1.1, (u.1.2.1, ((), ((), ((), (u.1.2.2.2.2.2.1, ())))))), ((u.2.1.1, (u.2.1.2.1, (u.2.1.2.2.1, ()))), ())))
def L_cy_21 (x : i_cy_21.den) : Option (denO o_cy_21) := Qc l_cy_21 lots x
abbrev i_cy_15 : Shp := { slots := [(2, .s (.dat YI)), (3, .s (.dat YI)), (8, .s (.ptr 8 0)), (11, .s (.ptr 11 0)), (12, .s (.ptr 12 0)), (13, .s (.dat YI))], boxes := [(8, [.dat YI, .dat YI, .dat .bool]), (11, [.dat Y22, .dat Y23, .dat Y24, .dat Y24, .own 2 YI, .own 51 Y32, .dat YI, .dat YI, .dat YI]), (12, [.own 2 YI, .dat YI, .own 2 YI, .dat .bool, .dat .bool, .dat .bool, .dat YI, .dat Y28, .own 2 YI, .own 139 Y76, .own 2 YI])], rows := [] }
abbrev o_cy_15 : List (Ex × Shp) := [(.ret, { slots := [(8, .s (.ptr 8 0))], boxes := [(8, [.dat YI, .dat YI, .dat .bool])], rows := [] })]
def l_cy_15 (rec : i_cy_15.den → Option (denO o_cy_15)) (u : i_cy_15.den) : Option (denO o_cy_15) :=
 (F_bi (((u.2.1.2.1.1, (u.2.1.2.1.2.1, (u.2.1.2.1.2.2.1, (u.2.1.2.1.2.2.2.1, ())))), (u.2.1.2.1.2.2.2.2.1, (u.2.1.2.1.2.2.2.2.2.1, (u.2.1.2.1.2.2.2.2.2.2.1, (u.2.1.2.1.2.2.2.2.2.2.2.1, (u.2.1.2.1.2.2.2.2.2.2.2.2.1, ())))))), ((u.2.1.2.2.1.1, (u.2.1.2.2.1.2.1, (u.2.1.2.2.1.2.2.1, (u.2.1.2.2.1.2.2.2.1, (u.2.1.2.2.1.2.2.2.2.1, (u.2.1.2.2.1.2.2.2.2.2.1, (u.2.1.2.2.1.2.2.2.2.2.2.1, (u.2.1.2.2.1.2.2.2.2.2.2.2.1, (u.2.1.2.2.1.2.2.2.2.2.2.2.2.1, ()))))))))), (u.2.1.2.2.1.2.2.2.2.2.2.2.2.2.1, (u.2.1.2.2.1.2.2.2.2.2.2.2.2.2.2.1, ()))), u.1.1, ())).bind fun r39 =>
 if (!r39.1.1) then
  some (.inl (((), ()), ((((0 : Int), (u.1.2.2.2.2.2.1, (false, ()))), ()), ())))
 else
  if (u.1.2.2.2.2.2.1 == u.1.2.1) then
   some (.inl (((), ()), ((((0 : Int), ((0 : Int), (true, ()))), ()), ())))
  else
   if 0 ≤ u.2.1.2.1.2.2.2.2.2.2.1 then
    ((u.2.1.2.1.2.2.2.1)[(u.2.1.2.1.2.2.2.2.2.2.1).toNat]?).bind fun y40 =>
    if (y40.1 == u.1.1) then
     (L_cy_21 ((u.1.1, (u.1.2.1, ((), ((), ((), (u.1.2.2.2.2.2.1, ((0 : Int), ()))))))), ((u.2.1.1, (u.2.1.2.1, (u.2.1.2.2.1, ()))), ()))).bind fun z53 =>
     match z53 with
     | .inl x54 =>
      if 0 ≤ x54.1.1 ∧ x54.1.1 < ((x54.2.1.2.1.2.2.2.2.2.1.length : Nat) : Int) then
       ((x54.2.1.2.1.2.2.2.2.2.1)[(x54.1.1).toNat]?).bind fun y55 =>
       (F_cu (((x54.2.1.2.2.1.1, (x54.2.1.2.2.1.2.1, (x54.2.1.2.2.1.2.2.1, (x54.2.1.2.2.1.2.2.2.1, (x54.2.1.2.2.1.2.2.2.2.1, (y55.2.2.2.2.2.1, (x54.2.1.2.2.1.2.2.2.2.2.2.1, (x54.2.1.2.2.1.2.2.2.2.2.2.2.1, (x54.2.1.2.2.1.2.2.2.2.2.2.2.2.1, ()))))))))), (x54.2.1.2.2.1.2.2.2.2.2.2.2.2.2.1, (x54.2.1.2.2.1.2.2.2.2.2.2.2.2.2.2.1, ()))), (1 : Int), ())).bind fun r56 =>
       (F_cx (x54.2.1.2.1, ())).bind fun r57 =>
       let v58 := (IntKind.i64.wrap (x54.1.2.2.2.2.2.1 + (1 : Int)))
       rec ((x54.1.1, (x54.1.2.1, ((), ((), ((), (v58, ())))))), ((x54.2.1.1, (r57.2.1, ((r56.1.1.2.1, (r56.1.1.2.2.1, (r56.1.1.2.2.2.1, (r56.1.1.2.2.2.2.1, (r56.1.1.2.2.2.2.2.1, (r56.1.1.2.2.2.2.2.2.1, (r56.1.1.2.2.2.2.2.2.2.1, (r56.1.1.2.2.2.2.2.2.2.2.1, (r56.1.1.2.2.2.2.2.2.2.2.2.1, (r56.1.1.2.2.2.2.2.2.2.2.2.2.1, (r56.1.1.2.2.2.2.2.2.2.2.2.2.2.1, ()))))))))))), ()))), ()))
      else none
     | .inr z53_ =>
      none
    else
     (F_cx (u.2.1.2.1, ())).bind fun r59 =>
     let v60 := (IntKind.i64.wrap (u.1.2.2.2.2.2.1 + (1 : Int)))
     rec ((u.1.1, (u.1.2.1, ((), ((), ((), (v60, ())))))), ((u.2.1.1, (r59.2.1, (u.2.1.2.2.1, ()))), ()))
   else none
def L_cy_15 (x : i_cy_15.den) : Option (denO o_cy_15) := Qc l_cy_15 lots x
def F_cy (x : denP P_cy) : FO P_cy R_ar :=
 (F_aq (x.1, ())).bind fun r1 =>
 if (r1.1.1 != (0 : Int)) then
  (F_ar (r1.1.1, ())).bind fun r2 =>
  some ((r2.1.1, ()), ())
 else
  (F_at (x.2.1, ())).bind fun r3 =>
  if (r3.1.1 != (0 : Int)) then
   (F_ar (r3.1.1, ())).bind fun r4 =>
   some ((r4.1.1, ()), ())
  else
   (F_ad (x.1.1, x.2.2.1, ())).bind fun r5 =>
   if (!r5.1.1) then
    (F_ar ((4 : Int), ())).bind fun r6 =>
    some ((r6.1.1, ()), ())
   else
    (F_au (x.1, x.2.2.2.1, ())).bind fun r7 =>
    if (!r7.1.1) then
     (F_ar ((3 : Int), ())).bind fun r8 =>
     some ((r8.1.1, ()), ())
    else
     (F_ay (x.1, ())).bind fun r9 =>
     (F_az (x.2.1, ())).bind fun r10 =>
     (L_cy_15 ((x.2.2.1, (x.2.2.2.1, ((), ((), ((), ((0 : Int), ())))))), ((((0 : Int), ((0 : Int), (false, ()))), (r9.1.1, (r10.1.1, ()))), ()))).bind fun z61 =>
     match z61 with
     | .inl x62 =>
      some ((x62.2.1.1, ()), ())
     | .inr z61_ =>
      none
abbrev C_cy : Con := ⟨P_cy, R_ar, F_cy, false⟩
abbrev G_cy : Env := [(18, C_aq), (19, C_ar), (20, C_at), (21, C_ad), (22, C_au), (23, C_ay), (24, C_az), (25, C_bi), (26, C_bj), (27, C_ba), (28, C_cu), (29, C_cx)]
theorem g_cy : Qe Tryz.prog G_cy := (Qa s_aq (Qa s_ar (Qa s_at (Qa s_ad (Qa s_au (Qa s_ay (Qa s_az (Qa s_bi (Qa s_bj (Qa s_ba (Qa s_cu (Qa s_cx Qd))))))))))))
abbrev c_cy_21 : Cut := ⟨i_cy_21, o_cy_21, fun x => Qc l_cy_21 lots x⟩
theorem k_cy_21 : Qo Tryz.prog 100 (.loop (nav Tryz.f6 [1, 1, 1, 1, 1, 1, 1, 1, 0, 0, 0, 0, 1, 1, 0, 1, 0, 0, 1, 0, 0])) c_cy_21 :=
  Qf (L := []) hT g_cy (fun _ _ => by kernel_rfl) okP _
abbrev c_cy_15 : Cut := ⟨i_cy_15, o_cy_15, fun x => Qc l_cy_15 lots x⟩
theorem t_cy_15 (rec x) : run T G_cy [(21, c_cy_21)] (nav Tryz.f6 [1, 1, 1, 1, 1, 1, 1, 1, 0, 0]) (mk 100 i_cy_15 x) (QhF i_cy_15 o_cy_15 rec) = l_cy_15 rec x := by kernel_rfl
theorem k_cy_15 : Qo Tryz.prog 100 (.loop (nav Tryz.f6 [1, 1, 1, 1, 1, 1, 1, 1, 0, 0])) c_cy_15 :=
  Qf (L := [(21, c_cy_21)]) hT g_cy t_cy_15 (okS (okB (okS okP (okS okP (okS (okS okP (okI (okS (okS okP (okB (okU k_cy_21))) okP) okP)) okP)))) okP) _
theorem r_cy (x) : Qv T G_cy [(21, c_cy_21), (15, c_cy_15)] Tryz.f6 C_cy.ps C_cy.rs x = C_cy.F x := by kernel_rfl
theorem s_cy : Qb Tryz.prog 6 C_cy := fnC (L := [(21, c_cy_21), (15, c_cy_15)]) hT g_cy Tryz.f6 (okS okP (okS okP (okS okP (okS okP (okS okP (okS okP (okS okP (okS okP (okB (okU k_cy_15)))))))))) r_cy
def F_cz (x : denP P_aa) : FO P_aa R_aa :=
 if (leI x.2.1 x.1) = true then
  some (((leI x.1 x.2.2.1), ()), ())
 else
  some ((false, ()), ())
abbrev C_cz : Con := ⟨P_aa, R_aa, F_cz, false⟩
theorem s_cz : Qb Tryz.prog 81 C_cz := fnC (L := []) hT g_a Tryz.f81 okP fun _ => by kernel_rfl
abbrev i_da_10 : Shp := { slots := [(3, .s (.mp)), (4, .s (.dat .bool)), (20, .s (.dat Y22)), (21, .s (.dat YI)), (22, .s (.dat YI)), (30, .s (.dat Y28)), (31, .s (.dat YI)), (32, .s (.dat YI))], boxes := [], rows := [] }
abbrev o_da_10 : List (Ex × Shp) := [(.exit 2, { slots := [(3, .s (.mp)), (4, .s (.dat .bool)), (20, .s (.dat Y22)), (21, .s (.dat YI)), (22, .s (.dat YI))], boxes := [], rows := [] }), (.ret, { slots := [(2, .s (.dat YI))], boxes := [], rows := [] })]
def l_da_10 (rec : i_da_10.den → Option (denO o_da_10)) (u : i_da_10.den) : Option (denO o_da_10) :=
 if (ltI u.1.2.2.2.2.2.2.2.1 u.1.2.2.2.2.2.2.1) then
  if 0 ≤ u.1.2.2.2.2.2.2.2.1 then
   ((u.1.2.2.2.2.2.1)[(u.1.2.2.2.2.2.2.2.1).toNat]?).bind fun y17 =>
   (F_cz (y17, (0 : Int), (23 : Int), ())).bind fun r18 =>
   if (!r18.1.1) then
    some (.inr (.inl (((3 : Int), ()), ((), ()))))
   else
    if u.1.2.1 = false then
     let v19 := (IntKind.i64.wrap (u.1.2.2.2.2.2.2.2.1 + (1 : Int)))
     rec (((setM u.1.1 y17 true), ((getM u.1.1 y17), (u.1.2.2.1, (u.1.2.2.2.1, (u.1.2.2.2.2.1, (u.1.2.2.2.2.2.1, (u.1.2.2.2.2.2.2.1, (v19, ())))))))), ((), ()))
    else
     let v20 := (IntKind.i64.wrap (u.1.2.2.2.2.2.2.2.1 + (1 : Int)))
     rec (((setM u.1.1 y17 true), (true, (u.1.2.2.1, (u.1.2.2.2.1, (u.1.2.2.2.2.1, (u.1.2.2.2.2.2.1, (u.1.2.2.2.2.2.2.1, (v20, ())))))))), ((), ()))
  else none
 else
  some (.inl ((u.1.1, (u.1.2.1, (u.1.2.2.1, (u.1.2.2.2.1, (u.1.2.2.2.2.1, ()))))), ((), ())))
def L_da_10 (x : i_da_10.den) : Option (denO o_da_10) := Qc l_da_10 lots x
abbrev i_da_5 : Shp := { slots := [(3, .s (.mp)), (4, .s (.dat .bool)), (20, .s (.dat Y22)), (21, .s (.dat YI)), (22, .s (.dat YI))], boxes := [], rows := [] }
abbrev o_da_5 : List (Ex × Shp) := [(.exit 0, { slots := [(4, .s (.dat .bool))], boxes := [], rows := [] }), (.ret, { slots := [(2, .s (.dat YI))], boxes := [], rows := [] })]
def l_da_5 (rec : i_da_5.den → Option (denO o_da_5)) (u : i_da_5.den) : Option (denO o_da_5) :=
 if (ltI u.1.2.2.2.2.1 u.1.2.2.2.1) then
  if 0 ≤ u.1.2.2.2.2.1 then
   ((u.1.2.2.1)[(u.1.2.2.2.2.1).toNat]?).bind fun y11 =>
   let v12 := ((y11.length : Nat) : Int)
   (F_cz (v12, (1 : Int), (5 : Int), ())).bind fun r13 =>
   if (!r13.1.1) then
    some (.inr (.inl (((2 : Int), ()), ((), ()))))
   else
    let v14 := ((y11.length : Nat) : Int)
    (L_da_10 ((u.1.1, (u.1.2.1, (u.1.2.2.1, (u.1.2.2.2.1, (u.1.2.2.2.2.1, (y11, (v14, ((0 : Int), ())))))))), ((), ()))).bind fun z21 =>
    match z21 with
    | .inl x22 =>
     let v23 := (IntKind.i64.wrap (x22.1.2.2.2.2.1 + (1 : Int)))
     rec ((x22.1.1, (x22.1.2.1, (x22.1.2.2.1, (x22.1.2.2.2.1, (v23, ()))))), ((), ()))
    | .inr z21_ =>
     match z21_ with
     | .inl x24 =>
      some (.inr (.inl ((x24.1.1, ()), ((), ()))))
     | .inr z21__ =>
      none
  else none
 else
  some (.inl ((u.1.2.1, ()), ((), ())))
def L_da_5 (x : i_da_5.den) : Option (denO o_da_5) := Qc l_da_5 lots x
def F_da (x : denP P_ac) : FO P_ac R_a :=
 let v1 := ((x.1.1.length : Nat) : Int)
 (F_cz (v1, (1 : Int), (3 : Int), ())).bind fun r2 =>
 if (!r2.1.1) then
  some (((2 : Int), ()), ())
 else
  let v3 := ((x.1.1.length : Nat) : Int)
  (L_da_5 ((([] : List (Int × Bool)), (false, (x.1.1, (v3, ((0 : Int), ()))))), ((), ()))).bind fun z25 =>
  match z25 with
  | .inl x26 =>
   if x26.1.1 then
    some (((6 : Int), ()), ())
   else
    some (((0 : Int), ()), ())
  | .inr z25_ =>
   match z25_ with
   | .inl x27 =>
    some ((x27.1.1, ()), ())
   | .inr z25__ =>
    none
abbrev C_da : Con := ⟨P_ac, R_a, F_da, false⟩
abbrev G_da : Env := [(81, C_cz)]
theorem g_da : Qe Tryz.prog G_da := (Qa s_cz Qd)
abbrev c_da_10 : Cut := ⟨i_da_10, o_da_10, fun x => Qc l_da_10 lots x⟩
theorem k_da_10 : Qo Tryz.prog 50 (.loop (nav Tryz.f124 [1, 1, 1, 0, 1, 0, 0, 1, 1, 0, 0, 1, 1, 1, 0, 0])) c_da_10 :=
  Qf (L := []) hT g_da (fun _ _ => by kernel_rfl) okP _
abbrev c_da_5 : Cut := ⟨i_da_5, o_da_5, fun x => Qc l_da_5 lots x⟩
theorem t_da_5 (rec x) : run T G_da [(10, c_da_10)] (nav Tryz.f124 [1, 1, 1, 0, 1, 0, 0]) (mk 50 i_da_5 x) (QhF i_da_5 o_da_5 rec) = l_da_5 rec x := by kernel_rfl
theorem k_da_5 : Qo Tryz.prog 50 (.loop (nav Tryz.f124 [1, 1, 1, 0, 1, 0, 0])) c_da_5 :=
  Qf (L := [(10, c_da_10)]) hT g_da t_da_5 (okS okP (okS okP (okS (okB (okS okP (okS okP (okS okP (okB (okU k_da_10)))))) okP))) _
theorem r_da (x) : Qv T G_da [(10, c_da_10), (5, c_da_5)] Tryz.f124 C_da.ps C_da.rs x = C_da.F x := by kernel_rfl
theorem s_da : Qb Tryz.prog 124 C_da := fnC (L := [(10, c_da_10), (5, c_da_5)]) hT g_da Tryz.f124 (okS okP (okS okP (okS okP (okS (okS okP (okB (okU k_da_5))) okP)))) r_da
def F_db (x : denP P_ad) : FO P_ad R_aa :=
 let v1 := ((x.1.1.length : Nat) : Int)
 let v2 := (IntKind.i64.wrap (v1 - (1 : Int)))
 (F_cz (x.2.1, (0 : Int), v2, ())).bind fun r3 =>
 some ((r3.1.1, ()), ())
abbrev C_db : Con := ⟨P_ad, R_aa, F_db, false⟩
theorem g_db : Qe Tryz.prog G_da := (Qa s_cz Qd)
theorem s_db : Qb Tryz.prog 38 C_db := fnC (L := []) hT g_db Tryz.f38 okP fun _ => by kernel_rfl
def F_dc (x : denP P_ae) : FO P_ae R_a :=
 (F_db (x.1, x.2.1, ())).bind fun r1 =>
 if (!r1.1.1) = false then
  (F_db (x.1, x.2.2.1, ())).bind fun r2 =>
  if (!r2.1.1) then
   some (((4 : Int), ()), ())
  else
   if (x.2.1 == x.2.2.1) then
    some (((1 : Int), ()), ())
   else
    some (((0 : Int), ()), ())
 else
  some (((4 : Int), ()), ())
abbrev C_dc : Con := ⟨P_ae, R_a, F_dc, false⟩
abbrev G_dc : Env := [(38, C_db)]
theorem g_dc : Qe Tryz.prog G_dc := (Qa s_db Qd)
theorem s_dc : Qb Tryz.prog 164 C_dc := fnC (L := []) hT g_dc Tryz.f164 okP fun _ => by kernel_rfl
abbrev i_dd_2 : Shp := { slots := [(0, .s (.dat Y28)), (1, .s (.dat YI)), (7, .s (.dat YI)), (8, .s (.dat YI))], boxes := [], rows := [] }
def l_dd_2 (rec : i_dd_2.den → Option (denO o_af_2)) (u : i_dd_2.den) : Option (denO o_af_2) :=
 if (ltI u.1.2.2.2.1 u.1.2.2.1) then
  if 0 ≤ u.1.2.2.2.1 then
   ((u.1.1)[(u.1.2.2.2.1).toNat]?).bind fun y3 =>
   if (u.1.2.1 == y3) then
    some (.inr (.inl ((u.1.2.2.2.1, ()), ((), ()))))
   else
    let v4 := (IntKind.i64.wrap (u.1.2.2.2.1 + (1 : Int)))
    rec ((u.1.1, (u.1.2.1, (u.1.2.2.1, (v4, ())))), ((), ()))
  else none
 else
  some (.inl ((), ((), ())))
def L_dd_2 (x : i_dd_2.den) : Option (denO o_af_2) := Qc l_dd_2 lots x
def F_dd (x : denP P_a) : FO P_a R_a :=
 let v1 := ((x.1.length : Nat) : Int)
 (L_dd_2 ((x.1, (x.2.1, (v1, ((0 : Int), ())))), ((), ()))).bind fun z5 =>
 match z5 with
 | .inl x6 =>
  some (((-1 : Int), ()), ())
 | .inr z5_ =>
  match z5_ with
  | .inl x7 =>
   some ((x7.1.1, ()), ())
  | .inr z5__ =>
   none
abbrev C_dd : Con := ⟨P_a, R_a, F_dd, false⟩
abbrev c_dd_2 : Cut := ⟨i_dd_2, o_af_2, fun x => Qc l_dd_2 lots x⟩
theorem k_dd_2 : Qo Tryz.prog 19 (.loop (nav Tryz.f213 [1, 0, 1, 0, 0])) c_dd_2 :=
  Qf (L := []) hT g_a (fun _ _ => by kernel_rfl) okP _
theorem r_dd (x) : Qv T G_a [(2, c_dd_2)] Tryz.f213 C_dd.ps C_dd.rs x = C_dd.F x := by kernel_rfl
theorem s_dd : Qb Tryz.prog 213 C_dd := fnC (L := [(2, c_dd_2)]) hT g_a Tryz.f213 (okS okP (okS (okS okP (okB (okU k_dd_2))) okP)) r_dd
def F_de (x : denP P_a) : FO P_a R_aa :=
 (F_dd (x.1, x.2.1, ())).bind fun r1 =>
 some (((leI (0 : Int) r1.1.1), ()), ())
abbrev C_de : Con := ⟨P_a, R_aa, F_de, false⟩
abbrev G_de : Env := [(213, C_dd)]
theorem g_de : Qe Tryz.prog G_de := (Qa s_dd Qd)
theorem s_de : Qb Tryz.prog 192 C_de := fnC (L := []) hT g_de Tryz.f192 okP fun _ => by kernel_rfl
abbrev P_df_1 : List PK := [.val Y28, .ptr YI]
def F_df_1 (x : denP P_df_1) : FO P_df_1 R_aa :=
 (F_de (x.1, x.2.1, ())).bind fun r1 =>
 some ((r1.1.1, ()), ())
abbrev C_df_1 : Con := ⟨P_df_1, R_aa, F_df_1, false⟩
abbrev G_df_1 : Env := [(192, C_de)]
theorem g_df_1 : Qe Tryz.prog G_df_1 := (Qa s_de Qd)
theorem s_df_1 : Qb Tryz.prog 191 C_df_1 := fnC (L := []) hT g_df_1 Tryz.f191 okP fun _ => by kernel_rfl
abbrev P_dg_1 : List PK := [.val Y22, .fn 191 [YI]]
abbrev i_dh_2 : Shp := { slots := [(0, .s (.dat Y22)), (1, .s (.fn 191 [YI])), (7, .s (.dat YI)), (8, .s (.dat YI))], boxes := [], rows := [] }
def l_dh_2 (rec : i_dh_2.den → Option (denO o_af_2)) (u : i_dh_2.den) : Option (denO o_af_2) :=
 if (ltI u.1.2.2.2.1 u.1.2.2.1) then
  if 0 ≤ u.1.2.2.2.1 then
   ((u.1.1)[(u.1.2.2.2.1).toNat]?).bind fun y4 =>
   (F_df_1 (y4, u.1.2.1.1, ())).bind fun r5 =>
   if r5.1.1 then
    some (.inr (.inl ((u.1.2.2.2.1, ()), ((), ()))))
   else
    let v6 := (IntKind.i64.wrap (u.1.2.2.2.1 + (1 : Int)))
    rec ((u.1.1, ((u.1.2.1.1, ()), (u.1.2.2.1, (v6, ())))), ((), ()))
  else none
 else
  some (.inl ((), ((), ())))
def L_dh_2 (x : i_dh_2.den) : Option (denO o_af_2) := Qc l_dh_2 lots x
def F_dg_1 (x : denP P_dg_1) : FO P_dg_1 R_a :=
 let v1 := ((x.1.length : Nat) : Int)
 (L_dh_2 ((x.1, ((x.2.1.1, ()), (v1, ((0 : Int), ())))), ((), ()))).bind fun z7 =>
 match z7 with
 | .inl x8 =>
  some (((-1 : Int), ()), ())
 | .inr z7_ =>
  match z7_ with
  | .inl x9 =>
   some ((x9.1.1, ()), ())
  | .inr z7__ =>
   none
abbrev C_dg_1 : Con := ⟨P_dg_1, R_a, F_dg_1, false⟩
abbrev G_dg_1 : Env := [(191, C_df_1)]
theorem g_dg_1 : Qe Tryz.prog G_dg_1 := (Qa s_df_1 Qd)
abbrev c_dh_2 : Cut := ⟨i_dh_2, o_af_2, fun x => Qc l_dh_2 lots x⟩
theorem k_dh_2 : Qo Tryz.prog 19 (.loop (nav Tryz.f190 [1, 0, 1, 0, 0])) c_dh_2 :=
  Qf (L := []) hT g_dg_1 (fun _ _ => by kernel_rfl) okP _
theorem r_dg_1 (x) : Qv T G_dg_1 [(2, c_dh_2)] Tryz.f190 C_dg_1.ps C_dg_1.rs x = C_dg_1.F x := by kernel_rfl
theorem s_dg_1 : Qb Tryz.prog 190 C_dg_1 := fnC (L := [(2, c_dh_2)]) hT g_dg_1 Tryz.f190 (okS okP (okS (okS okP (okB (okU k_dh_2))) okP)) r_dg_1
def F_df (x : denP P_ad) : FO P_ad R_a :=
 (F_dg_1 (x.1.1, (x.2.1, ()), ())).bind fun r1 =>
 some ((r1.1.1, ()), ())
abbrev C_df : Con := ⟨P_ad, R_a, F_df, false⟩
abbrev G_df : Env := [(190, C_dg_1)]
theorem g_df : Qe Tryz.prog G_df := (Qa s_dg_1 Qd)
theorem s_df : Qb Tryz.prog 165 C_df := fnC (L := []) hT g_df Tryz.f165 okP fun _ => by kernel_rfl
def F_di (x : denP P_ag) : FO P_ag R_aa :=
 if (x.1.1 == x.2.1) = true then
  if (x.1.2.2.2.1 == x.2.2.1) = false then
   if (x.1.2.1 == x.2.1) = true then
    some (((x.1.2.2.2.2.1 == x.2.2.1), ()), ())
   else
    some ((false, ()), ())
  else
   some ((true, ()), ())
 else
  if (x.1.2.1 == x.2.1) = true then
   some (((x.1.2.2.2.2.1 == x.2.2.1), ()), ())
  else
   some ((false, ()), ())
abbrev C_di : Con := ⟨P_ag, R_aa, F_di, false⟩
theorem s_di : Qb Tryz.prog 168 C_di := fnC (L := []) hT g_a Tryz.f168 okP fun _ => by kernel_rfl
abbrev P_dj_1 : List PK := [.val Y78, .ptr Y78]
def F_dj_1 (x : denP P_dj_1) : FO P_dj_1 R_aa :=
 if (x.1.2.2.1 == x.2.1.2.2.1) = false then
  (F_di (x.1, x.2.1.1, x.2.1.2.2.2.1, ())).bind fun r1 =>
  if r1.1.1 = false then
   (F_di (x.1, x.2.1.2.1, x.2.1.2.2.2.2.1, ())).bind fun r2 =>
   some ((r2.1.1, ()), ())
  else
   some ((true, ()), ())
 else
  some ((true, ()), ())
abbrev C_dj_1 : Con := ⟨P_dj_1, R_aa, F_dj_1, false⟩
abbrev G_dj_1 : Env := [(168, C_di)]
theorem g_dj_1 : Qe Tryz.prog G_dj_1 := (Qa s_di Qd)
theorem s_dj_1 : Qb Tryz.prog 167 C_dj_1 := fnC (L := []) hT g_dj_1 Tryz.f167 okP fun _ => by kernel_rfl
abbrev P_dk_1 : List PK := [.val Y23, .fn 167 [Y78]]
abbrev i_dl_2 : Shp := { slots := [(0, .s (.dat Y23)), (1, .s (.fn 167 [Y78])), (7, .s (.dat YI)), (8, .s (.dat YI))], boxes := [], rows := [] }
def l_dl_2 (rec : i_dl_2.den → Option (denO o_af_2)) (u : i_dl_2.den) : Option (denO o_af_2) :=
 if (ltI u.1.2.2.2.1 u.1.2.2.1) then
  if 0 ≤ u.1.2.2.2.1 then
   ((u.1.1)[(u.1.2.2.2.1).toNat]?).bind fun y4 =>
   (F_dj_1 (y4, u.1.2.1.1, ())).bind fun r5 =>
   if r5.1.1 then
    some (.inr (.inl ((u.1.2.2.2.1, ()), ((), ()))))
   else
    let v6 := (IntKind.i64.wrap (u.1.2.2.2.1 + (1 : Int)))
    rec ((u.1.1, ((u.1.2.1.1, ()), (u.1.2.2.1, (v6, ())))), ((), ()))
  else none
 else
  some (.inl ((), ((), ())))
def L_dl_2 (x : i_dl_2.den) : Option (denO o_af_2) := Qc l_dl_2 lots x
def F_dk_1 (x : denP P_dk_1) : FO P_dk_1 R_a :=
 let v1 := ((x.1.length : Nat) : Int)
 (L_dl_2 ((x.1, ((x.2.1.1, ()), (v1, ((0 : Int), ())))), ((), ()))).bind fun z7 =>
 match z7 with
 | .inl x8 =>
  some (((-1 : Int), ()), ())
 | .inr z7_ =>
  match z7_ with
  | .inl x9 =>
   some ((x9.1.1, ()), ())
  | .inr z7__ =>
   none
abbrev C_dk_1 : Con := ⟨P_dk_1, R_a, F_dk_1, false⟩
abbrev G_dk_1 : Env := [(167, C_dj_1)]
theorem g_dk_1 : Qe Tryz.prog G_dk_1 := (Qa s_dj_1 Qd)
abbrev c_dl_2 : Cut := ⟨i_dl_2, o_af_2, fun x => Qc l_dl_2 lots x⟩
theorem k_dl_2 : Qo Tryz.prog 19 (.loop (nav Tryz.f193 [1, 0, 1, 0, 0])) c_dl_2 :=
  Qf (L := []) hT g_dk_1 (fun _ _ => by kernel_rfl) okP _
theorem r_dk_1 (x) : Qv T G_dk_1 [(2, c_dl_2)] Tryz.f193 C_dk_1.ps C_dk_1.rs x = C_dk_1.F x := by kernel_rfl
theorem s_dk_1 : Qb Tryz.prog 193 C_dk_1 := fnC (L := [(2, c_dl_2)]) hT g_dk_1 Tryz.f193 (okS okP (okS (okS okP (okB (okU k_dl_2))) okP)) r_dk_1
def F_dm_1 (x : denP P_dk_1) : FO P_dk_1 R_aa :=
 (F_dk_1 (x.1, (x.2.1.1, ()), ())).bind fun r1 =>
 some (((leI (0 : Int) r1.1.1), ()), ())
abbrev C_dm_1 : Con := ⟨P_dk_1, R_aa, F_dm_1, false⟩
abbrev G_dm_1 : Env := [(193, C_dk_1)]
theorem g_dm_1 : Qe Tryz.prog G_dm_1 := (Qa s_dk_1 Qd)
theorem s_dm_1 : Qb Tryz.prog 166 C_dm_1 := fnC (L := []) hT g_dm_1 Tryz.f166 okP fun _ => by kernel_rfl
abbrev P_dj : List PK := [.ptr Y26, .val Y78, .val Y23]
def F_dj (x : denP P_dj) : FO P_dj R_a :=
 (F_dc (x.1, x.2.1.1, x.2.1.2.1, ())).bind fun r1 =>
 if (r1.1.1 != (0 : Int)) then
  some ((r1.1.1, ()), ())
 else
  (F_cz (x.2.1.2.2.1, (0 : Int), (23 : Int), ())).bind fun r2 =>
  if (!r2.1.1) = false then
   (F_cz (x.2.1.2.2.2.1, (5 : Int), (6 : Int), ())).bind fun r3 =>
   if (!r3.1.1) = false then
    (F_cz (x.2.1.2.2.2.2.1, (5 : Int), (6 : Int), ())).bind fun r4 =>
    if (!r4.1.1) then
     some (((3 : Int), ()), ())
    else
     (F_df (x.1, x.2.1.2.2.1, ())).bind fun r5 =>
     if (leI (0 : Int) r5.1.1) = false then
      (F_dm_1 (x.2.2.1, (x.2.1, ()), ())).bind fun r6 =>
      if r6.1.1 then
       some (((6 : Int), ()), ())
      else
       some (((0 : Int), ()), ())
     else
      some (((6 : Int), ()), ())
   else
    some (((3 : Int), ()), ())
  else
   some (((3 : Int), ()), ())
abbrev C_dj : Con := ⟨P_dj, R_a, F_dj, false⟩
abbrev G_dj : Env := [(81, C_cz), (164, C_dc), (165, C_df), (166, C_dm_1)]
theorem g_dj : Qe Tryz.prog G_dj := (Qa s_cz (Qa s_dc (Qa s_df (Qa s_dm_1 Qd))))
theorem s_dj : Qb Tryz.prog 125 C_dj := fnC (L := []) hT g_dj Tryz.f125 okP fun _ => by kernel_rfl
abbrev P_dn : List PK := [.val Y24, .val Y76]
abbrev i_dn_2 : Shp := { slots := [(0, .s (.dat Y24)), (3, .s (.ptr 3 0)), (7, .s (.dat YI)), (8, .s (.dat YI))], boxes := [(3, [.dat YI, .dat YI])], rows := [] }
def l_dn_2 (rec : i_dn_2.den → Option (denO o_af_2)) (u : i_dn_2.den) : Option (denO o_af_2) :=
 if (ltI u.1.2.2.2.1 u.1.2.2.1) then
  if 0 ≤ u.1.2.2.2.1 then
   ((u.1.1)[(u.1.2.2.2.1).toNat]?).bind fun y3 =>
   if ((u.2.1.1.1 == y3.1) && ((u.2.1.1.2.1 == y3.2.1) && true)) then
    some (.inr (.inl ((u.1.2.2.2.1, ()), ((), ()))))
   else
    let v4 := (IntKind.i64.wrap (u.1.2.2.2.1 + (1 : Int)))
    rec ((u.1.1, ((), (u.1.2.2.1, (v4, ())))), ((u.2.1.1, ()), ()))
  else none
 else
  some (.inl ((), ((), ())))
def L_dn_2 (x : i_dn_2.den) : Option (denO o_af_2) := Qc l_dn_2 lots x
def F_dn (x : denP P_dn) : FO P_dn R_a :=
 let v1 := ((x.1.length : Nat) : Int)
 (L_dn_2 ((x.1, ((), (v1, ((0 : Int), ())))), (((x.2.1.1, (x.2.1.2.1, ())), ()), ()))).bind fun z5 =>
 match z5 with
 | .inl x6 =>
  some (((-1 : Int), ()), ())
 | .inr z5_ =>
  match z5_ with
  | .inl x7 =>
   some ((x7.1.1, ()), ())
  | .inr z5__ =>
   none
abbrev C_dn : Con := ⟨P_dn, R_a, F_dn, false⟩
abbrev c_dn_2 : Cut := ⟨i_dn_2, o_af_2, fun x => Qc l_dn_2 lots x⟩
theorem k_dn_2 : Qo Tryz.prog 19 (.loop (nav Tryz.f142 [1, 0, 1, 0, 0])) c_dn_2 :=
  Qf (L := []) hT g_a (fun _ _ => by kernel_rfl) okP _
theorem r_dn (x) : Qv T G_a [(2, c_dn_2)] Tryz.f142 C_dn.ps C_dn.rs x = C_dn.F x := by kernel_rfl
theorem s_dn : Qb Tryz.prog 142 C_dn := fnC (L := [(2, c_dn_2)]) hT g_a Tryz.f142 (okS okP (okS (okS okP (okB (okU k_dn_2))) okP)) r_dn
def F_do (x : denP P_dn) : FO P_dn R_aa :=
 (F_dn (x.1, x.2.1, ())).bind fun r1 =>
 some (((leI (0 : Int) r1.1.1), ()), ())
abbrev C_do : Con := ⟨P_dn, R_aa, F_do, false⟩
abbrev G_do : Env := [(142, C_dn)]
theorem g_do : Qe Tryz.prog G_do := (Qa s_dn Qd)
theorem s_do : Qb Tryz.prog 98 C_do := fnC (L := []) hT g_do Tryz.f98 okP fun _ => by kernel_rfl
abbrev P_dp : List PK := [.ptr Y26, .val Y76, .val Y24]
def F_dp (x : denP P_dp) : FO P_dp R_a :=
 (F_dc (x.1, x.2.1.1, x.2.1.2.1, ())).bind fun r1 =>
 if (r1.1.1 != (0 : Int)) then
  some ((r1.1.1, ()), ())
 else
  (F_do (x.2.2.1, x.2.1, ())).bind fun r2 =>
  if r2.1.1 then
   some (((6 : Int), ()), ())
  else
   some (((0 : Int), ()), ())
abbrev C_dp : Con := ⟨P_dp, R_a, F_dp, false⟩
abbrev G_dp : Env := [(98, C_do), (164, C_dc)]
theorem g_dp : Qe Tryz.prog G_dp := (Qa s_do (Qa s_dc Qd))
theorem s_dp : Qb Tryz.prog 126 C_dp := fnC (L := []) hT g_dp Tryz.f126 okP fun _ => by kernel_rfl
abbrev i_dq_4 : Shp := { slots := [(0, .s (.pd Y26)), (15, .s (.dat Y24)), (16, .s (.dat YI)), (17, .s (.dat YI))], boxes := [], rows := [] }
def l_dq_4 (rec : i_dq_4.den → Option (denO o_ah_4)) (u : i_dq_4.den) : Option (denO o_ah_4) :=
 if (ltI u.1.2.2.2.1 u.1.2.2.1) then
  if 0 ≤ u.1.2.2.2.1 then
   ((u.1.2.1)[(u.1.2.2.2.1).toNat]?).bind fun y7 =>
   (F_db (u.1.1, y7.1, ())).bind fun r8 =>
   if (!r8.1.1) then
    some (.inr (.inl (((4 : Int), ()), ((), ()))))
   else
    (F_cz (y7.2.1, (1 : Int), (50 : Int), ())).bind fun r9 =>
    if (!r9.1.1) then
     some (.inr (.inl (((3 : Int), ()), ((), ()))))
    else
     let v10 := (IntKind.i64.wrap (u.1.2.2.2.1 + (1 : Int)))
     rec ((u.1.1, (u.1.2.1, (u.1.2.2.1, (v10, ())))), ((), ()))
  else none
 else
  some (.inl ((), ((), ())))
def L_dq_4 (x : i_dq_4.den) : Option (denO o_ah_4) := Qc l_dq_4 lots x
def F_dq (x : denP P_ac) : FO P_ac R_a :=
 let v1 := ((x.1.2.2.2.1.length : Nat) : Int)
 (F_cz (v1, (1 : Int), (8 : Int), ())).bind fun r2 =>
 if (!r2.1.1) then
  some (((2 : Int), ()), ())
 else
  let v3 := ((x.1.2.2.2.1.length : Nat) : Int)
  (L_dq_4 ((x.1, (x.1.2.2.2.1, (v3, ((0 : Int), ())))), ((), ()))).bind fun z11 =>
  match z11 with
  | .inl x12 =>
   some (((0 : Int), ()), ())
  | .inr z11_ =>
   match z11_ with
   | .inl x13 =>
    some ((x13.1.1, ()), ())
   | .inr z11__ =>
    none
abbrev C_dq : Con := ⟨P_ac, R_a, F_dq, false⟩
abbrev G_dq : Env := [(38, C_db), (81, C_cz)]
theorem g_dq : Qe Tryz.prog G_dq := (Qa s_db (Qa s_cz Qd))
abbrev c_dq_4 : Cut := ⟨i_dq_4, o_ah_4, fun x => Qc l_dq_4 lots x⟩
theorem k_dq_4 : Qo Tryz.prog 33 (.loop (nav Tryz.f127 [1, 1, 0, 1, 0, 0])) c_dq_4 :=
  Qf (L := []) hT g_dq (fun _ _ => by kernel_rfl) okP _
theorem r_dq (x) : Qv T G_dq [(4, c_dq_4)] Tryz.f127 C_dq.ps C_dq.rs x = C_dq.F x := by kernel_rfl
theorem s_dq : Qb Tryz.prog 127 C_dq := fnC (L := [(4, c_dq_4)]) hT g_dq Tryz.f127 (okS okP (okS okP (okS (okS okP (okB (okU k_dq_4))) okP))) r_dq
end Go.Proofs.YtopmpmbdkieenaaGreatDoor
