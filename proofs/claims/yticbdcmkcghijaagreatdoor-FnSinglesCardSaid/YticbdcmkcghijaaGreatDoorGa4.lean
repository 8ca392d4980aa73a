/- The functions of the laws, each as a plain function of data (F), and that the program's text does what F says. Printed by a program (wip/tools/gen.py). -/
import Derived.Test.YticbdcmkcghijaaGreatDoorGa3
namespace Go.Proofs.YticbdcmkcghijaaGreatDoor
open Go Go.RowKit S Go.Proofs
set_option maxRecDepth 100000
abbrev P_fe:List PK:=[.val Y41,.val Y26,.val Y30,.val YI]
abbrev R_fe:List VK:=[.g [.dat YI,.dat YI,.dat YI,.own 2 YI,.dat YI,.own 2 YI,.dat .bool,.dat .bool,.dat .bool,.dat YI,.own 2 YI,.own 2 YI,.own 2 YI]]
abbrev i_fe_4:Shp:={ slots:=[(8,.s (.ptr 8 0)),(9,.s (.ptr 9 0)),(10,.s (.dat YI)),(11,.s (.dat YI)),(18,.s (.dat YI)),(19,.s (.dat YI))],boxes:=[(8,[.dat YI,.dat YI,.dat YI,.own 2 YI,.dat YI,.own 2 YI,.dat .bool,.dat .bool,.dat .bool,.dat YI,.own 2 YI,.own 2 YI,.own 2 YI]),(9,[.own 2 YI,.dat YI,.own 2 YI,.dat .bool,.dat .bool,.dat .bool,.dat YI,.own 2 YI,.own 2 YI,.dat Y26,.own 2 YI,.dat YI,.dat YI])],rows:=[] }
abbrev o_fe_4:List (Ex×Shp):=[(.exit 0,{ slots:=[(8,.s (.ptr 8 0)),(9,.s (.ptr 9 0)),(10,.s (.dat YI)),(11,.s (.dat YI))],boxes:=[(8,[.dat YI,.dat YI,.dat YI,.own 2 YI,.dat YI,.own 2 YI,.dat .bool,.dat .bool,.dat .bool,.dat YI,.own 2 YI,.own 2 YI,.own 2 YI]),(9,[.own 2 YI,.dat YI,.own 2 YI,.dat .bool,.dat .bool,.dat .bool,.dat YI,.own 2 YI,.own 2 YI,.dat Y26,.own 2 YI,.dat YI,.dat YI])],rows:=[] })]
def l_fe_4 (rec:i_fe_4.den→Option (denO o_fe_4)) (u:i_fe_4.den):Option (denO o_fe_4):=
 if (ltI u.1.2.2.2.2.2.1 u.1.2.2.2.2.1) then
  (F_fd (u.2.1.2.1,())).bind fun r4=>
  if (leI (0:Int) r4.2.1.2.2.2.2.2.2.2.2.2.2.2.1) then
   if (leI (0:Int) r4.2.1.2.2.2.2.2.2.2.2.2.2.2.2.1) then
    let v5:=(IntKind.i64.wrap (u.1.2.2.2.2.2.1+(1:Int)))
    rec (((),((),(r4.2.1.2.2.2.2.2.2.2.2.2.2.2.1,(r4.2.1.2.2.2.2.2.2.2.2.2.2.2.2.1,(u.1.2.2.2.2.1,(v5,())))))),((u.2.1.1,(r4.2.1,())),()))
   else
    let v6:=(IntKind.i64.wrap (u.1.2.2.2.2.2.1+(1:Int)))
    rec (((),((),(r4.2.1.2.2.2.2.2.2.2.2.2.2.2.1,(u.1.2.2.2.1,(u.1.2.2.2.2.1,(v6,())))))),((u.2.1.1,(r4.2.1,())),()))
  else
   if (leI (0:Int) r4.2.1.2.2.2.2.2.2.2.2.2.2.2.2.1) then
    let v7:=(IntKind.i64.wrap (u.1.2.2.2.2.2.1+(1:Int)))
    rec (((),((),(u.1.2.2.1,(r4.2.1.2.2.2.2.2.2.2.2.2.2.2.2.1,(u.1.2.2.2.2.1,(v7,())))))),((u.2.1.1,(r4.2.1,())),()))
   else
    let v8:=(IntKind.i64.wrap (u.1.2.2.2.2.2.1+(1:Int)))
    rec (((),((),(u.1.2.2.1,(u.1.2.2.2.1,(u.1.2.2.2.2.1,(v8,())))))),((u.2.1.1,(r4.2.1,())),()))
 else
  some (.inl (((),((),(u.1.2.2.1,(u.1.2.2.2.1,())))),((u.2.1.1,(u.2.1.2.1,())),())))
def L_fe_4 (x:i_fe_4.den):Option (denO o_fe_4):=Qd l_fe_4 lots x
def F_fe (x:denP P_fe):FO P_fe R_fe:=
 (F_dn (x.1,())).bind fun r1=>
 (F_dh (x.2.2.1,())).bind fun r2=>
 (L_fe_4 (((),((),((-1:Int),((-1:Int),(x.2.2.2.1,((0:Int),())))))),((((0:Int),((0:Int),((0:Int),(([]:List (den YI)),((0:Int),(([]:List (den YI)),(false,(false,(false,((0:Int),(([]:List (den YI)),(([]:List (den YI)),(([]:List (den YI)),()))))))))))))),((r1.1.1.1,(r1.1.1.2.1,(r1.1.1.2.2.1,(r1.1.1.2.2.2.1,(r1.1.1.2.2.2.2.1,(r1.1.1.2.2.2.2.2.1,(r1.1.1.2.2.2.2.2.2.1,(r1.1.1.2.2.2.2.2.2.2.1,(r1.1.1.2.2.2.2.2.2.2.2.1,(x.2.1,(r2.1.1,((0:Int),((0:Int),()))))))))))))),())),()))).bind fun z9=>
 match z9 with
 | .inl x10=>
  some ((((0:Int),(x10.1.2.2.1,(x10.1.2.2.2.1,(x10.2.1.2.1.1,(x10.2.1.2.1.2.1,(x10.2.1.2.1.2.2.1,(x10.2.1.2.1.2.2.2.1,(x10.2.1.2.1.2.2.2.2.1,(x10.2.1.2.1.2.2.2.2.2.1,(x10.2.1.2.1.2.2.2.2.2.2.1,(x10.2.1.2.1.2.2.2.2.2.2.2.1,(x10.2.1.2.1.2.2.2.2.2.2.2.2.1,(x10.2.1.2.1.2.2.2.2.2.2.2.2.2.2.1,()))))))))))))),()),())
 | .inr z9_=>
  none
abbrev C_fe:Con:=⟨P_fe,R_fe,F_fe,false⟩
abbrev G_fe:Env:=[(58,C_dh),(60,C_dn),(102,C_fd)]
theorem g_fe:Qg Tryz.prog G_fe:=(Qa s_dh (Qa s_dn (Qa s_fd Qc)))
abbrev c_fe_4:Cut:=⟨i_fe_4,o_fe_4,fun x=>Qd l_fe_4 lots x⟩
theorem k_fe_4:Qy Tryz.prog 40 (.loop (nav Tryz.f62 [1,1,1,0,1,0,0])) c_fe_4:=
  Qh (L:=[]) hT g_fe (fun _ _=>by kernel_rfl) okP _
theorem r_fe (x):QN T G_fe [(4,c_fe_4)] Tryz.f62 C_fe.ps C_fe.rs x=C_fe.F x:=by kernel_rfl
theorem s_fe:Qb Tryz.prog 62 C_fe:=fnC (L:=[(4,c_fe_4)]) hT g_fe Tryz.f62 (okS okP (okS okP (okS okP (okS (okS okP (okB (okU k_fe_4))) okP)))) r_fe
def F_ff (x:denP P_bt):FO P_bt R_ap:=
 (F_dp (((x.1.1,(x.1.2.1,(x.1.2.2.1,(x.1.2.2.2.1,())))),(x.1.2.2.2.2.1,(x.1.2.2.2.2.2.1,(x.1.2.2.2.2.2.2.1,(x.1.2.2.2.2.2.2.2.1,(x.1.2.2.2.2.2.2.2.2.1,())))))),())).bind fun r1=>
 if 0≤r1.1.1∧r1.1.1< ((x.1.2.2.2.2.2.1.length:Nat):Int) then
  ((x.1.2.2.2.2.2.1)[(r1.1.1).toNat]?).bind fun y2=>
  (F_du ((x.1.1,(x.1.2.1,(x.1.2.2.1,(x.1.2.2.2.1,())))),r1.1.1,())).bind fun r3=>
  (F_fe (y2,r3.1.1,x.1.2.2.2.2.1,(1:Int),())).bind fun r4=>
  if 0≤r1.1.1∧r1.1.1< ((x.1.2.2.2.2.2.1.length:Nat):Int) then
   ((x.1.2.2.2.2.2.1)[(r1.1.1).toNat]?).bind fun y5=>
   let v6:=(x.1.2.2.2.2.2.1.set (r1.1.1).toNat (r4.1.1.2.2.2.1,(r4.1.1.2.2.2.2.1,(r4.1.1.2.2.2.2.2.1,(r4.1.1.2.2.2.2.2.2.1,(r4.1.1.2.2.2.2.2.2.2.1,(r4.1.1.2.2.2.2.2.2.2.2.1,(r4.1.1.2.2.2.2.2.2.2.2.2.1,(r4.1.1.2.2.2.2.2.2.2.2.2.2.1,(r4.1.1.2.2.2.2.2.2.2.2.2.2.2.1,()))))))))))
   (F_cr (x.1.2.2.1,(r1.1.1,(r4.1.1.2.2.1,())),())).bind fun r7=>
   if r7.1.1 then
    if 0≤r4.1.1.2.2.1∧r4.1.1.2.2.1< ((v6.length:Nat):Int) then
     ((v6)[(r4.1.1.2.2.1).toNat]?).bind fun y8=>
     let v9:=(v6.set (r4.1.1.2.2.1).toNat (y8.1,(y8.2.1,(y8.2.2.1,(y8.2.2.2.1,(y8.2.2.2.2.1,(true,y8.2.2.2.2.2.2)))))))
     let v10:=(IntKind.i64.wrap (x.1.2.2.2.2.2.2.2.1-(1:Int)))
     if (v10==(0:Int)) then
      let v11:=(IntKind.i64.wrap (x.1.2.2.2.2.2.2.1+(1:Int)))
      let v12:=((x.1.2.2.2.1.length:Nat):Int)
      if v12=0 then none else
      let v13:=((v11).tmod v12)
      if 0≤v13 then
       ((x.1.2.2.2.1)[(v13).toNat]?).bind fun y14=>
       let v15:=(IntKind.i64.wrap (x.1.2.2.2.2.2.2.2.2.1+(1:Int)))
       some ((),((x.1.1,(x.1.2.1,(x.1.2.2.1,(x.1.2.2.2.1,(r4.1.1.2.2.2.2.2.2.2.2.2.2.2.2.1,(v9,(v13,(y14.2.1,(v15,()))))))))),()))
      else none
     else
      let v16:=(IntKind.i64.wrap (x.1.2.2.2.2.2.2.2.2.1+(1:Int)))
      some ((),((x.1.1,(x.1.2.1,(x.1.2.2.1,(x.1.2.2.2.1,(r4.1.1.2.2.2.2.2.2.2.2.2.2.2.2.1,(v9,(x.1.2.2.2.2.2.2.1,(v10,(v16,()))))))))),()))
    else none
   else
    let v17:=(IntKind.i64.wrap (x.1.2.2.2.2.2.2.2.1-(1:Int)))
    if (v17==(0:Int)) then
     let v18:=(IntKind.i64.wrap (x.1.2.2.2.2.2.2.1+(1:Int)))
     let v19:=((x.1.2.2.2.1.length:Nat):Int)
     if v19=0 then none else
     let v20:=((v18).tmod v19)
     if 0≤v20 then
      ((x.1.2.2.2.1)[(v20).toNat]?).bind fun y21=>
      let v22:=(IntKind.i64.wrap (x.1.2.2.2.2.2.2.2.2.1+(1:Int)))
      some ((),((x.1.1,(x.1.2.1,(x.1.2.2.1,(x.1.2.2.2.1,(r4.1.1.2.2.2.2.2.2.2.2.2.2.2.2.1,(v6,(v20,(y21.2.1,(v22,()))))))))),()))
     else none
    else
     let v23:=(IntKind.i64.wrap (x.1.2.2.2.2.2.2.2.2.1+(1:Int)))
     some ((),((x.1.1,(x.1.2.1,(x.1.2.2.1,(x.1.2.2.2.1,(r4.1.1.2.2.2.2.2.2.2.2.2.2.2.2.1,(v6,(x.1.2.2.2.2.2.2.1,(v17,(v23,()))))))))),()))
  else none
 else none
abbrev C_ff:Con:=⟨P_bt,R_ap,F_ff,false⟩
abbrev G_ff:Env:=[(61,C_dp),(62,C_fe),(63,C_du),(64,C_cr)]
theorem g_ff:Qg Tryz.prog G_ff:=(Qa s_dp (Qa s_fe (Qa s_du (Qa s_cr Qc))))
theorem s_ff:Qb Tryz.prog 28 C_ff:=fnC (L:=[]) hT g_ff Tryz.f28 okP fun _=>by kernel_rfl
abbrev P_fg:List PK:=[.val Y32,.val YI]
abbrev R_fg:List VK:=[.g [.dat YI,.dat Y24,.dat Y25,.dat Y26,.dat Y26,.own 2 YI,.own 42 Y41,.dat YI,.dat YI,.dat YI]]
abbrev i_fg_8:Shp:={ slots:=[(4,.s (.ptr 4 0)),(6,.s (.ptr 6 0)),(26,.s (.dat YI)),(27,.s (.dat YI))],boxes:=[(4,[.dat YI,.own 30 Y30,.own 130 Y129,.own 114 Y51,.own 52 Y51,.own 2 YI,.own 42 Y41,.dat YI,.dat YI,.dat YI]),(6,[.dat Y24,.dat Y25,.dat Y26,.dat Y26,.own 2 YI,.own 42 Y41,.dat YI,.dat YI,.dat YI])],rows:=[] }
abbrev o_fg_8:List (Ex×Shp):=[(.exit 0,{ slots:=[(4,.s (.ptr 4 0)),(6,.s (.ptr 6 0))],boxes:=[(4,[.dat YI,.own 30 Y30,.own 130 Y129,.own 114 Y51,.own 52 Y51,.own 2 YI,.own 42 Y41,.dat YI,.dat YI,.dat YI]),(6,[.dat Y24,.dat Y25,.dat Y26,.dat Y26,.own 2 YI,.own 42 Y41,.dat YI,.dat YI,.dat YI])],rows:=[] })]
def l_fg_8 (rec:i_fg_8.den→Option (denO o_fg_8)) (u:i_fg_8.den):Option (denO o_fg_8):=
 if (ltI u.1.2.2.2.1 u.1.2.2.1) then
  (F_ff (u.2.1.2.1,())).bind fun r7=>
  let v8:=(IntKind.i64.wrap (u.1.2.2.2.1+(1:Int)))
  rec (((),((),(u.1.2.2.1,(v8,())))),((u.2.1.1,(r7.2.1,())),()))
 else
  some (.inl (((),((),())),((u.2.1.1,(u.2.1.2.1,())),())))
def L_fg_8 (x:i_fg_8.den):Option (denO o_fg_8):=Qd l_fg_8 lots x
def F_fg (x:denP P_fg):FO P_fg R_fg:=
 (F_df (x.1,())).bind fun r1=>
 if (r1.1.1 !=(0:Int)) then
  some (((r1.1.1,(([]:List (den Y30)),(([]:List (den Y129)),(([]:List (den Y51)),(([]:List (den Y51)),(([]:List (den YI)),(([]:List (den Y41)),((0:Int),((0:Int),((0:Int),())))))))))),()),())
 else
  (F_cc (x.2.1,(0:Int),(500:Int),())).bind fun r2=>
  if (!r2.1.1)=false then
   let v3:=(IntKind.i64.wrap (x.1.2.2.2.2.2.1+x.2.1))
   if (ltI (1000000:Int) v3) then
    some ((((3:Int),(([]:List (den Y30)),(([]:List (den Y129)),(([]:List (den Y51)),(([]:List (den Y51)),(([]:List (den YI)),(([]:List (den Y41)),((0:Int),((0:Int),((0:Int),())))))))))),()),())
   else
    (F_do (x.1,())).bind fun r4=>
    (L_fg_8 (((),((),(x.2.1,((0:Int),())))),((((0:Int),(([]:List (den Y30)),(([]:List (den Y129)),(([]:List (den Y51)),(([]:List (den Y51)),(([]:List (den YI)),(([]:List (den Y41)),((0:Int),((0:Int),((0:Int),())))))))))),(r4.1.1,())),()))).bind fun z9=>
    match z9 with
    | .inl x10=>
     some ((((0:Int),x10.2.1.2.1),()),())
    | .inr z9_=>
     none
  else
   some ((((3:Int),(([]:List (den Y30)),(([]:List (den Y129)),(([]:List (den Y51)),(([]:List (den Y51)),(([]:List (den YI)),(([]:List (den Y41)),((0:Int),((0:Int),((0:Int),())))))))))),()),())
abbrev C_fg:Con:=⟨P_fg,R_fg,F_fg,false⟩
abbrev G_fg:Env:=[(17,C_df),(26,C_cc),(27,C_do),(28,C_ff)]
theorem g_fg:Qg Tryz.prog G_fg:=(Qa s_df (Qa s_cc (Qa s_do (Qa s_ff Qc))))
abbrev c_fg_8:Cut:=⟨i_fg_8,o_fg_8,fun x=>Qd l_fg_8 lots x⟩
theorem k_fg_8:Qy Tryz.prog 33 (.loop (nav Tryz.f9 [1,1,1,1,0,1,0,0])) c_fg_8:=
  Qh (L:=[]) hT g_fg (fun _ _=>by kernel_rfl) okP _
theorem r_fg (x):QN T G_fg [(8,c_fg_8)] Tryz.f9 C_fg.ps C_fg.rs x=C_fg.F x:=by kernel_rfl
theorem s_fg:Qb Tryz.prog 9 C_fg:=fnC (L:=[(8,c_fg_8)]) hT g_fg Tryz.f9 (okS okP (okS okP (okS okP (okS okP (okS (okS okP (okB (okU k_fg_8))) okP))))) r_fg
def l_fh_4 (rec:i_ae_2.den→Option (denO o_l_4)) (u:i_ae_2.den):Option (denO o_l_4):=
 let v7:=((u.1.1.length:Nat):Int)
 if (ltI u.1.2.1 v7) then
  if 0≤u.1.2.1 then
   ((u.1.1)[(u.1.2.1).toNat]?).bind fun y8=>
   (F_e (y8,(0:Int),(4294967295:Int),())).bind fun r9=>
   if (!r9.1.1) then
    some (.inr (.inl (((3:Int),()),((),()))))
   else
    let v10:=(IntKind.i64.wrap (u.1.2.1+(1:Int)))
    rec ((u.1.1,(v10,())),((),()))
  else none
 else
  some (.inl ((),((),())))
def L_fh_4 (x:i_ae_2.den):Option (denO o_l_4):=Qd l_fh_4 lots x
def F_fh (x:denP P_ae):FO P_ae R_c:=
 let v1:=((x.1.length:Nat):Int)
 let v2:=((v1).tmod (8:Int))
 if (v2 !=(0:Int))=false then
  let v3:=((x.1.length:Nat):Int)
  if (ltI v3 (8:Int))=false then
   let v4:=((x.1.length:Nat):Int)
   if (ltI (192:Int) v4) then
    some (((1:Int),()),())
   else
    (L_fh_4 ((x.1,((0:Int),())),((),()))).bind fun z11=>
    match z11 with
    | .inl x12=>
     some (((0:Int),()),())
    | .inr z11_=>
     match z11_ with
     | .inl x13=>
      some ((x13.1.1,()),())
     | .inr z11__=>
      none
  else
   some (((1:Int),()),())
 else
  some (((1:Int),()),())
abbrev C_fh:Con:=⟨P_ae,R_c,F_fh,false⟩
theorem g_fh:Qg Tryz.prog G_h:=(Qa s_e Qc)
abbrev c_fh_4:Cut:=⟨i_ae_2,o_l_4,fun x=>Qd l_fh_4 lots x⟩
theorem k_fh_4:Qy Tryz.prog 30 (.loop (nav Tryz.f109 [1,1,0,1,0,0])) c_fh_4:=
  Qh (L:=[]) hT g_fh (fun _ _=>by kernel_rfl) okP _
theorem r_fh (x):QN T G_h [(4,c_fh_4)] Tryz.f109 C_fh.ps C_fh.rs x=C_fh.F x:=by kernel_rfl
theorem s_fh:Qb Tryz.prog 109 C_fh:=fnC (L:=[(4,c_fh_4)]) hT g_fh Tryz.f109 (okS okP (okS okP (okS (okS okP (okB (okU k_fh_4))) okP))) r_fh
def F_fi (x:denP P_ae):FO P_ae R_a:=
 (F_fh (x.1,())).bind fun r1=>
 if (r1.1.1==(0:Int))=true then
  let v2:=((x.1.length:Nat):Int)
  some (((v2==(192:Int)),()),())
 else
  some ((false,()),())
abbrev C_fi:Con:=⟨P_ae,R_a,F_fi,false⟩
abbrev G_fi:Env:=[(109,C_fh)]
theorem g_fi:Qg Tryz.prog G_fi:=(Qa s_fh Qc)
theorem s_fi:Qb Tryz.prog 66 C_fi:=fnC (L:=[]) hT g_fi Tryz.f66 okP fun _=>by kernel_rfl
def F_fj (x:denP P_an):FO P_an R_c:=
 let v1:=((x.1.1.length:Nat):Int)
 if (v1 !=(16:Int))=false then
  let v2:=((x.1.2.2.1.length:Nat):Int)
  if (v2 !=(11:Int))=false then
   ((x.1.1)[((0:Int)).toNat]?).bind fun y3=>
   if (y3 !=(0:Int)) then
    some (((1:Int),()),())
   else
    (F_ae (x.1.1,())).bind fun r4=>
    if (!r4.1.1)=false then
     (F_ad (x.1.2.1,())).bind fun r5=>
     if (!r5.1.1)=false then
      (F_ae (x.1.2.2.1,())).bind fun r6=>
      if (!r6.1.1)=false then
       (F_ae (x.1.2.2.2.2.2.2.2.1,())).bind fun r7=>
       if (!r7.1.1)=false then
        (F_ae (x.1.2.2.2.2.2.2.2.2.1,())).bind fun r8=>
        if (!r8.1.1) then
         some (((3:Int),()),())
        else
         let v9:=((x.1.2.2.2.2.2.2.2.1.length:Nat):Int)
         if (ltI (40:Int) v9)=false then
          let v10:=((x.1.2.2.2.2.2.2.2.2.1.length:Nat):Int)
          if (ltI (40:Int) v10) then
           some (((2:Int),()),())
          else
           (F_e (x.1.2.2.2.2.2.2.1,(0:Int),(1000000000:Int),())).bind fun r11=>
           if (!r11.1.1) then
            some (((3:Int),()),())
           else
            ((x.1.2.2.1)[((0:Int)).toNat]?).bind fun y12=>
            if (ltI (3:Int) y12)=false then
             ((x.1.2.2.1)[((7:Int)).toNat]?).bind fun y13=>
             if (ltI (7:Int) y13)=false then
              ((x.1.2.2.1)[((10:Int)).toNat]?).bind fun y14=>
              if (ltI (8:Int) y14)=false then
               ((x.1.2.2.1)[((6:Int)).toNat]?).bind fun y15=>
               if (y15 !=(0:Int))=false then
                ((x.1.2.2.1)[((8:Int)).toNat]?).bind fun y16=>
                if (y16 !=(0:Int)) then
                 some (((1:Int),()),())
                else
                 some (((0:Int),()),())
               else
                some (((1:Int),()),())
              else
               some (((1:Int),()),())
             else
              some (((1:Int),()),())
            else
             some (((1:Int),()),())
         else
          some (((2:Int),()),())
       else
        some (((3:Int),()),())
      else
       some (((3:Int),()),())
     else
      some (((3:Int),()),())
    else
     some (((3:Int),()),())
  else
   some (((1:Int),()),())
 else
  some (((1:Int),()),())
abbrev C_fj:Con:=⟨P_an,R_c,F_fj,false⟩
abbrev G_fj:Env:=[(30,C_e),(110,C_ae),(111,C_ad)]
theorem g_fj:Qg Tryz.prog G_fj:=(Qa s_e (Qa s_ae (Qa s_ad Qc)))
theorem s_fj:Qb Tryz.prog 67 C_fj:=fnC (L:=[]) hT g_fj Tryz.f67 okP fun _=>by kernel_rfl
abbrev i_fk_8:Shp:={ slots:=[(0,.s (.pd Y28)),(8,.s (.dat YI)),(9,.s (.dat YI))],boxes:=[],rows:=[] }
abbrev o_fk_8:List (Ex×Shp):=[(.exit 2,{ slots:=[(0,.s (.pd Y28)),(8,.s (.dat YI)),(9,.s (.dat YI))],boxes:=[],rows:=[] })]
def l_fk_8 (rec:i_fk_8.den→Option (denO o_fk_8)) (u:i_fk_8.den):Option (denO o_fk_8):=
 if 0≤u.1.2.2.1 then
  ((u.1.1.2.2.2.1)[(u.1.2.2.1).toNat]?).bind fun y11=>
  if (leI y11.2.1 u.1.2.1) then
   if 0≤u.1.2.2.1 then
    ((u.1.1.2.2.2.1)[(u.1.2.2.1).toNat]?).bind fun y12=>
    let v13:=(IntKind.i64.wrap (u.1.2.1-y12.2.1))
    let v14:=(IntKind.i64.wrap (u.1.2.2.1+(1:Int)))
    rec ((u.1.1,(v13,(v14,()))),((),()))
   else none
  else
   some (.inl ((u.1.1,(u.1.2.1,(u.1.2.2.1,()))),((),())))
 else none
def L_fk_8 (x:i_fk_8.den):Option (denO o_fk_8):=Qd l_fk_8 lots x
abbrev i_fk_3:Shp:={ slots:=[(0,.s (.pd Y28)),(1,.s (.dat YI)),(6,.s (.dat YI)),(7,.s (.dat YI))],boxes:=[],rows:=[] }
def l_fk_3 (rec:i_fk_3.den→Option (denO o_de_3)) (u:i_fk_3.den):Option (denO o_de_3):=
 let v2:=((u.1.1.2.2.2.1.length:Nat):Int)
 if (ltI u.1.2.2.2.1 v2) then
  if 0≤u.1.2.2.2.1 then
   ((u.1.1.2.2.2.1)[(u.1.2.2.2.1).toNat]?).bind fun y3=>
   let v4:=(IntKind.i64.wrap (u.1.2.2.1+y3.2.1))
   let v5:=(IntKind.i64.wrap (u.1.2.2.2.1+(1:Int)))
   rec ((u.1.1,(u.1.2.1,(v4,(v5,())))),((),()))
  else none
 else
  some (.inl ((u.1.1,(u.1.2.1,(u.1.2.2.1,()))),((),())))
def L_fk_3 (x:i_fk_3.den):Option (denO o_de_3):=Qd l_fk_3 lots x
def F_fk (x:denP P_h):FO P_h R_aw:=
 (L_fk_3 ((x.1,(x.2.1,((0:Int),((0:Int),())))),((),()))).bind fun z6=>
 match z6 with
 | .inl x7=>
  if x7.1.2.2.1=0 then none else
  let v8:=((x7.1.2.1).tmod x7.1.2.2.1)
  (L_fk_8 ((x7.1.1,(v8,((0:Int),()))),((),()))).bind fun z15=>
  match z15 with
  | .inl x16=>
   if 0≤x16.1.2.2.1 then
    ((x16.1.1.2.2.2.1)[(x16.1.2.2.1).toNat]?).bind fun y17=>
    let v18:=(IntKind.i64.wrap (y17.2.1-x16.1.2.1))
    some ((x16.1.2.2.1,v18,()),())
   else none
  | .inr z15_=>
   none
 | .inr z6_=>
  none
abbrev C_fk:Con:=⟨P_h,R_aw,F_fk,false⟩
abbrev c_fk_8:Cut:=⟨i_fk_8,o_fk_8,fun x=>Qd l_fk_8 lots x⟩
theorem k_fk_8:Qy Tryz.prog 65 (.loop (nav Tryz.f68 [1,1,1,1,1,0,0,0])) c_fk_8:=
  Qh (L:=[]) hT g_a (fun _ _=>by kernel_rfl) okP _
abbrev c_fk_3:Cut:=⟨i_fk_3,o_de_3,fun x=>Qd l_fk_3 lots x⟩
theorem k_fk_3:Qy Tryz.prog 65 (.loop (nav Tryz.f68 [1,1,0,1,0,0])) c_fk_3:=
  Qh (L:=[]) hT g_a (fun _ _=>by kernel_rfl) okP _
theorem r_fk (x):QN T G_a [(8,c_fk_8),(3,c_fk_3)] Tryz.f68 C_fk.ps C_fk.rs x=C_fk.F x:=by kernel_rfl
theorem s_fk:Qb Tryz.prog 68 C_fk:=fnC (L:=[(8,c_fk_8),(3,c_fk_3)]) hT g_a Tryz.f68 (okS okP (okS okP (okS (okS okP (okB (okU k_fk_3))) (okS okP (okS okP (okS (okB (okU k_fk_8)) okP)))))) r_fk
abbrev i_fl_7:Shp:={ slots:=[(0,.s (.pd Y32)),(4,.s (.dat YI))],boxes:=[],rows:=[] }
abbrev o_fl_7:List (Ex×Shp):=[(.exit 0,{ slots:=[(0,.s (.pd Y32))],boxes:=[],rows:=[] }),(.ret,{ slots:=[(2,.s (.dat YI))],boxes:=[],rows:=[] })]
def l_fl_7 (rec:i_fl_7.den→Option (denO o_fl_7)) (u:i_fl_7.den):Option (denO o_fl_7):=
 let v7:=((u.1.1.2.2.1.length:Nat):Int)
 if (ltI u.1.2.1 v7) then
  if 0≤u.1.2.1 then
   ((u.1.1.2.2.1)[(u.1.2.1).toNat]?).bind fun y8=>
   (F_fj (y8,())).bind fun r9=>
   if (r9.1.1 !=(0:Int)) then
    some (.inr (.inl ((r9.1.1,()),((),()))))
   else
    let v10:=(IntKind.i64.wrap (u.1.2.1+(1:Int)))
    rec ((u.1.1,(v10,())),((),()))
  else none
 else
  some (.inl ((u.1.1,()),((),())))
def L_fl_7 (x:i_fl_7.den):Option (denO o_fl_7):=Qd l_fl_7 lots x
def F_fl (x:denP P_dp):FO P_dp R_c:=
 (F_x (x.1.1,())).bind fun r1=>
 if (r1.1.1 !=(0:Int)) then
  some ((r1.1.1,()),())
 else
  (F_fi (x.1.2.1,())).bind fun r2=>
  if (!r2.1.1)=false then
   let v3:=((x.1.2.2.1.length:Nat):Int)
   let v4:=((x.1.1.1.length:Nat):Int)
   if (v3 !=v4) then
    some (((1:Int),()),())
   else
    (L_fl_7 ((x.1,((0:Int),())),((),()))).bind fun z11=>
    match z11 with
    | .inl x12=>
     (F_e (x12.1.1.2.2.2.2.2.1,(0:Int),(1000000:Int),())).bind fun r13=>
     if (!r13.1.1) then
      some (((3:Int),()),())
     else
      (F_fk (x12.1.1.1,x12.1.1.2.2.2.2.2.1,())).bind fun r14=>
      if (x12.1.1.2.2.2.1 !=r14.1.1)=false then
       if (x12.1.1.2.2.2.2.1 !=r14.1.2.1) then
        some (((1:Int),()),())
       else
        some (((0:Int),()),())
      else
       some (((1:Int),()),())
    | .inr z11_=>
     match z11_ with
     | .inl x15=>
      some ((x15.1.1,()),())
     | .inr z11__=>
      none
  else
   some (((1:Int),()),())
abbrev C_fl:Con:=⟨P_dp,R_c,F_fl,false⟩
abbrev G_fl:Env:=[(30,C_e),(65,C_x),(66,C_fi),(67,C_fj),(68,C_fk)]
theorem g_fl:Qg Tryz.prog G_fl:=(Qa s_e (Qa s_x (Qa s_fi (Qa s_fj (Qa s_fk Qc)))))
abbrev c_fl_7:Cut:=⟨i_fl_7,o_fl_7,fun x=>Qd l_fl_7 lots x⟩
theorem k_fl_7:Qy Tryz.prog 85 (.loop (nav Tryz.f29 [1,1,1,0,1,0,0])) c_fl_7:=
  Qh (L:=[]) hT g_fl (fun _ _=>by kernel_rfl) okP _
theorem r_fl (x):QN T G_fl [(7,c_fl_7)] Tryz.f29 C_fl.ps C_fl.rs x=C_fl.F x:=by kernel_rfl
theorem s_fl:Qb Tryz.prog 29 C_fl:=fnC (L:=[(7,c_fl_7)]) hT g_fl Tryz.f29 (okS okP (okS okP (okS okP (okS (okS okP (okB (okU k_fl_7))) okP)))) r_fl
abbrev i_fm_3:Shp:={ slots:=[(1,.s (.ptr 1 0)),(2,.s (.ptr 2 0)),(3,.s (.ptr 3 0)),(4,.s (.dat YI))],boxes:=[(1,[.dat Y24,.dat Y25,.dat Y26,.dat Y26,.dat Y30,.dat Y31,.dat YI,.dat YI,.dat YI]),(2,[.own 30 Y30,.own 130 Y129,.own 114 Y51,.own 52 Y51,.own 2 YI,.own 42 Y41,.dat YI,.dat YI,.dat YI]),(3,[.own 30 Y30,.own 130 Y129,.own 114 Y51,.own 52 Y51,.own 2 YI,.own 42 Y41,.dat YI,.dat YI,.dat YI])],rows:=[] }
abbrev o_fm_3:List (Ex×Shp):=[(.exit 0,{ slots:=[(2,.s (.ptr 2 0)),(3,.s (.ptr 3 0))],boxes:=[(2,[.own 30 Y30,.own 130 Y129,.own 114 Y51,.own 52 Y51,.own 2 YI,.own 42 Y41,.dat YI,.dat YI,.dat YI]),(3,[.own 30 Y30,.own 130 Y129,.own 114 Y51,.own 52 Y51,.own 2 YI,.own 42 Y41,.dat YI,.dat YI,.dat YI])],rows:=[] })]
def l_fm_3 (rec:i_fm_3.den→Option (denO o_fm_3)) (u:i_fm_3.den):Option (denO o_fm_3):=
 let v5:=((u.2.1.1.2.2.2.2.2.1.length:Nat):Int)
 if (ltI u.1.2.2.2.1 v5) then
  if 0≤u.1.2.2.2.1 then
   ((u.2.1.1.2.2.2.2.2.1)[(u.1.2.2.2.1).toNat]?).bind fun y6=>
   (F_al (y6,())).bind fun r7=>
   if (u.2.1.2.2.1.2.2.2.2.2.1.length+[r7.1.1].length)*120≤140737488355328 then
    let v8:=(u.2.1.2.2.1.2.2.2.2.2.1++[r7.1.1])
    let v9:=(IntKind.i64.wrap (u.1.2.2.2.1+(1:Int)))
    rec (((),((),((),(v9,())))),((u.2.1.1,(u.2.1.2.1,((u.2.1.2.2.1.1,(u.2.1.2.2.1.2.1,(u.2.1.2.2.1.2.2.1,(u.2.1.2.2.1.2.2.2.1,(u.2.1.2.2.1.2.2.2.2.1,(v8,(u.2.1.2.2.1.2.2.2.2.2.2.1,(u.2.1.2.2.1.2.2.2.2.2.2.2.1,(u.2.1.2.2.1.2.2.2.2.2.2.2.2.1,()))))))))),()))),()))
   else none
  else none
 else
  some (.inl (((),((),())),((u.2.1.2.1,(u.2.1.2.2.1,())),())))
def L_fm_3 (x:i_fm_3.den):Option (denO o_fm_3):=Qd l_fm_3 lots x
def F_fm (x:denP P_df):FO P_df R_ah:=
 (F_ac (x.1.1,())).bind fun r1=>
 (F_ak (x.1.2.1,())).bind fun r2=>
 (L_fm_3 (((),((),((),((0:Int),())))),(((x.1.1.1,(x.1.1.2.1,(x.1.1.2.2.1,(x.1.1.2.2.2.1,(x.1.2.1,(x.1.2.2.1,(x.1.2.2.2.1,(x.1.2.2.2.2.1,(x.1.2.2.2.2.2.1,()))))))))),((([]:List (den Y30)),(([]:List (den Y129)),(([]:List (den Y51)),(([]:List (den Y51)),(([]:List (den YI)),(([]:List (den Y41)),((0:Int),((0:Int),((0:Int),()))))))))),((r1.1.1.1,(r1.1.1.2.1,(r1.1.1.2.2.1,(r1.1.1.2.2.2.1,(r2.1.1,(([]:List (den Y41)),(x.1.2.2.2.1,(x.1.2.2.2.2.1,(x.1.2.2.2.2.2.1,()))))))))),()))),()))).bind fun z10=>
 match z10 with
 | .inl x11=>
  some ((x11.2.1.2.1,()),())
 | .inr z10_=>
  none
abbrev C_fm:Con:=⟨P_df,R_ah,F_fm,false⟩
abbrev G_fm:Env:=[(69,C_ac),(70,C_ak),(71,C_al)]
theorem g_fm:Qg Tryz.prog G_fm:=(Qa s_ac (Qa s_ak (Qa s_al Qc)))
abbrev c_fm_3:Cut:=⟨i_fm_3,o_fm_3,fun x=>Qd l_fm_3 lots x⟩
theorem k_fm_3:Qy Tryz.prog 37 (.loop (nav Tryz.f31 [1,1,0,1,0,0])) c_fm_3:=
  Qh (L:=[]) hT g_fm (fun _ _=>by kernel_rfl) okP _
theorem r_fm (x):QN T G_fm [(3,c_fm_3)] Tryz.f31 C_fm.ps C_fm.rs x=C_fm.F x:=by kernel_rfl
theorem s_fm:Qb Tryz.prog 31 C_fm:=fnC (L:=[(3,c_fm_3)]) hT g_fm Tryz.f31 (okS okP (okS okP (okS (okS okP (okB (okU k_fm_3))) okP))) r_fm
abbrev i_fn_8:Shp:={ slots:=[(1,.s (.dat YI)),(4,.s (.ptr 4 0)),(6,.s (.ptr 6 0)),(7,.s (.dat YI))],boxes:=[(4,[.dat YI,.own 30 Y30,.own 130 Y129,.own 114 Y51,.own 52 Y51,.own 2 YI,.own 42 Y41,.dat YI,.dat YI,.dat YI]),(6,[.dat Y24,.dat Y25,.dat Y26,.dat Y26,.own 2 YI,.own 42 Y41,.dat YI,.dat YI,.dat YI])],rows:=[] }
def l_fn_8 (rec:i_fn_8.den→Option (denO o_fg_8)) (u:i_fn_8.den):Option (denO o_fg_8):=
 if (ltI u.1.2.2.2.1 u.1.1) then
  (F_bt (u.2.1.2.1,())).bind fun r7=>
  let v8:=(IntKind.i64.wrap (u.1.2.2.2.1+(1:Int)))
  rec ((u.1.1,((),((),(v8,())))),((u.2.1.1,(r7.2.1,())),()))
 else
  some (.inl (((),((),())),((u.2.1.1,(u.2.1.2.1,())),())))
def L_fn_8 (x:i_fn_8.den):Option (denO o_fg_8):=Qd l_fn_8 lots x
def F_fn (x:denP P_fg):FO P_fg R_fg:=
 (F_fl (x.1,())).bind fun r1=>
 if (r1.1.1 !=(0:Int)) then
  some (((r1.1.1,(([]:List (den Y30)),(([]:List (den Y129)),(([]:List (den Y51)),(([]:List (den Y51)),(([]:List (den YI)),(([]:List (den Y41)),((0:Int),((0:Int),((0:Int),())))))))))),()),())
 else
  (F_e (x.2.1,(0:Int),(500:Int),())).bind fun r2=>
  if (!r2.1.1)=false then
   let v3:=(IntKind.i64.wrap (x.1.2.2.2.2.2.1+x.2.1))
   if (ltI (1000000:Int) v3) then
    some ((((3:Int),(([]:List (den Y30)),(([]:List (den Y129)),(([]:List (den Y51)),(([]:List (den Y51)),(([]:List (den YI)),(([]:List (den Y41)),((0:Int),((0:Int),((0:Int),())))))))))),()),())
   else
    (F_fm (x.1,())).bind fun r4=>
    (L_fn_8 ((x.2.1,((),((),((0:Int),())))),((((0:Int),(([]:List (den Y30)),(([]:List (den Y129)),(([]:List (den Y51)),(([]:List (den Y51)),(([]:List (den YI)),(([]:List (den Y41)),((0:Int),((0:Int),((0:Int),())))))))))),(r4.1.1,())),()))).bind fun z9=>
    match z9 with
    | .inl x10=>
     some ((((0:Int),x10.2.1.2.1),()),())
    | .inr z9_=>
     none
  else
   some ((((3:Int),(([]:List (den Y30)),(([]:List (den Y129)),(([]:List (den Y51)),(([]:List (den Y51)),(([]:List (den YI)),(([]:List (den Y41)),((0:Int),((0:Int),((0:Int),())))))))))),()),())
abbrev C_fn:Con:=⟨P_fg,R_fg,F_fn,false⟩
abbrev G_fn:Env:=[(29,C_fl),(30,C_e),(31,C_fm),(32,C_bt)]
theorem g_fn:Qg Tryz.prog G_fn:=(Qa s_fl (Qa s_e (Qa s_fm (Qa s_bt Qc))))
abbrev c_fn_8:Cut:=⟨i_fn_8,o_fg_8,fun x=>Qd l_fn_8 lots x⟩
theorem k_fn_8:Qy Tryz.prog 34 (.loop (nav Tryz.f10 [1,1,1,1,0,1,0,0])) c_fn_8:=
  Qh (L:=[]) hT g_fn (fun _ _=>by kernel_rfl) okP _
theorem r_fn (x):QN T G_fn [(8,c_fn_8)] Tryz.f10 C_fn.ps C_fn.rs x=C_fn.F x:=by kernel_rfl
theorem s_fn:Qb Tryz.prog 10 C_fn:=fnC (L:=[(8,c_fn_8)]) hT g_fn Tryz.f10 (okS okP (okS okP (okS okP (okS okP (okS (okS okP (okB (okU k_fn_8))) okP))))) r_fn
def F_fo (x:denP P_df):FO P_df R_fg:=
 (F_df (x.1,())).bind fun r1=>
 if (r1.1.1 !=(0:Int)) then
  some (((r1.1.1,(([]:List (den Y30)),(([]:List (den Y129)),(([]:List (den Y51)),(([]:List (den Y51)),(([]:List (den YI)),(([]:List (den Y41)),((0:Int),((0:Int),((0:Int),())))))))))),()),())
 else
  if (x.1.2.2.2.2.2.1==(1000000:Int)) then
   some ((((3:Int),(([]:List (den Y30)),(([]:List (den Y129)),(([]:List (den Y51)),(([]:List (den Y51)),(([]:List (den YI)),(([]:List (den Y41)),((0:Int),((0:Int),((0:Int),())))))))))),()),())
  else
   (F_do (x.1,())).bind fun r2=>
   (F_ff (r2.1.1,())).bind fun r3=>
   some ((((0:Int),r3.2.1),()),())
abbrev C_fo:Con:=⟨P_df,R_fg,F_fo,false⟩
abbrev G_fo:Env:=[(17,C_df),(27,C_do),(28,C_ff)]
theorem g_fo:Qg Tryz.prog G_fo:=(Qa s_df (Qa s_do (Qa s_ff Qc)))
theorem s_fo:Qb Tryz.prog 11 C_fo:=fnC (L:=[]) hT g_fo Tryz.f11 okP fun _=>by kernel_rfl
abbrev P_fp:List PK:=[.val Y30,.val Y30]
abbrev i_fp_3:Shp:={ slots:=[(0,.s (.dat Y30)),(5,.s (.own 2 YI)),(9,.s (.dat Y30)),(10,.s (.dat YI)),(11,.s (.dat YI))],boxes:=[],rows:=[] }
def l_fp_3 (rec:i_fp_3.den→Option (denO o_aa_3)) (u:i_fp_3.den):Option (denO o_aa_3):=
 if (ltI u.1.2.2.2.2.1 u.1.2.2.2.1) then
  if 0≤u.1.2.2.2.2.1 then
   ((u.1.2.2.1)[(u.1.2.2.2.2.1).toNat]?).bind fun y4=>
   (F_ea (u.1.1,y4,())).bind fun r5=>
   if (u.1.2.1.length+r5.1.1.length)*8≤140737488355328 then
    let v6:=(u.1.2.1++r5.1.1)
    let v7:=(IntKind.i64.wrap (u.1.2.2.2.2.1+(1:Int)))
    rec ((u.1.1,(v6,(u.1.2.2.1,(u.1.2.2.2.1,(v7,()))))),((),()))
   else none
  else none
 else
  some (.inl ((u.1.2.1,()),((),())))
def L_fp_3 (x:i_fp_3.den):Option (denO o_aa_3):=Qd l_fp_3 lots x
def F_fp (x:denP P_fp):FO P_fp R_u:=
 let v1:=((x.2.1.length:Nat):Int)
 (L_fp_3 ((x.1,(([]:List (den YI)),(x.2.1,(v1,((0:Int),()))))),((),()))).bind fun z8=>
 match z8 with
 | .inl x9=>
  some ((x9.1.1,()),())
 | .inr z8_=>
  none
abbrev C_fp:Con:=⟨P_fp,R_u,F_fp,false⟩
abbrev G_fp:Env:=[(77,C_ea)]
theorem g_fp:Qg Tryz.prog G_fp:=(Qa s_ea Qc)
abbrev c_fp_3:Cut:=⟨i_fp_3,o_aa_3,fun x=>Qd l_fp_3 lots x⟩
theorem k_fp_3:Qy Tryz.prog 22 (.loop (nav Tryz.f76 [1,1,0,1,0,0])) c_fp_3:=
  Qh (L:=[]) hT g_fp (fun _ _=>by kernel_rfl) okP _
theorem r_fp (x):QN T G_fp [(3,c_fp_3)] Tryz.f76 C_fp.ps C_fp.rs x=C_fp.F x:=by kernel_rfl
theorem s_fp:Qb Tryz.prog 76 C_fp:=fnC (L:=[(3,c_fp_3)]) hT g_fp Tryz.f76 (okS okP (okS okP (okS (okS okP (okB (okU k_fp_3))) okP))) r_fp
abbrev P_fq:List PK:=[.ptr Y32,.val YI]
abbrev R_fq:List VK:=[.g [.own 2 YI,.dat YI,.own 2 YI,.dat .bool,.dat .bool,.dat .bool,.dat YI,.own 2 YI,.own 2 YI,.own 2 YI,.own 2 YI]]
abbrev i_fq_3:Shp:={ slots:=[(0,.s (.pd Y32)),(1,.s (.dat YI)),(4,.s (.ptr 4 0)),(5,.s (.ptr 5 0)),(34,.s (.dat Y25)),(35,.s (.dat YI)),(36,.s (.dat YI))],boxes:=[(4,[.own 2 YI,.dat YI,.own 2 YI,.dat .bool,.dat .bool,.dat .bool,.dat YI,.own 2 YI,.own 2 YI,.own 2 YI,.own 2 YI]),(5,[.own 2 YI,.dat YI,.own 2 YI,.dat .bool,.dat .bool,.dat .bool,.dat YI,.own 2 YI,.own 2 YI,.own 2 YI,.own 2 YI])],rows:=[] }
abbrev o_fq_3:List (Ex×Shp):=[(.exit 0,{ slots:=[(4,.s (.ptr 4 0)),(5,.s (.ptr 5 0))],boxes:=[(4,[.own 2 YI,.dat YI,.own 2 YI,.dat .bool,.dat .bool,.dat .bool,.dat YI,.own 2 YI,.own 2 YI,.own 2 YI,.own 2 YI]),(5,[.own 2 YI,.dat YI,.own 2 YI,.dat .bool,.dat .bool,.dat .bool,.dat YI,.own 2 YI,.own 2 YI,.own 2 YI,.own 2 YI])],rows:=[] })]
def l_fq_3 (rec:i_fq_3.den→Option (denO o_fq_3)) (u:i_fq_3.den):Option (denO o_fq_3):=
 if (ltI u.1.2.2.2.2.2.2.1 u.1.2.2.2.2.2.1) then
  if 0≤u.1.2.2.2.2.2.2.1 then
   ((u.1.2.2.2.2.1)[(u.1.2.2.2.2.2.2.1).toNat]?).bind fun y8=>
   if (y8.1==u.1.2.1) then
    (F_ea (u.1.1.2.1,y8.2.2.1,())).bind fun r9=>
    if (u.2.1.2.1.2.2.2.2.2.2.2.2.2.2.1.length+r9.1.1.length)*8≤140737488355328 then
     let v10:=(u.2.1.2.1.2.2.2.2.2.2.2.2.2.2.1++r9.1.1)
     let v11:=(IntKind.i64.wrap (u.1.2.2.2.2.2.2.1+(1:Int)))
     rec ((u.1.1,(u.1.2.1,((),((),(u.1.2.2.2.2.1,(u.1.2.2.2.2.2.1,(v11,()))))))),((u.2.1.1,((u.2.1.2.1.1,(u.2.1.2.1.2.1,(u.2.1.2.1.2.2.1,(u.2.1.2.1.2.2.2.1,(u.2.1.2.1.2.2.2.2.1,(u.2.1.2.1.2.2.2.2.2.1,(u.2.1.2.1.2.2.2.2.2.2.1,(u.2.1.2.1.2.2.2.2.2.2.2.1,(u.2.1.2.1.2.2.2.2.2.2.2.2.1,(u.2.1.2.1.2.2.2.2.2.2.2.2.2.1,(v10,()))))))))))),())),()))
    else none
   else
    let v12:=(IntKind.i64.wrap (u.1.2.2.2.2.2.2.1+(1:Int)))
    rec ((u.1.1,(u.1.2.1,((),((),(u.1.2.2.2.2.1,(u.1.2.2.2.2.2.1,(v12,()))))))),((u.2.1.1,(u.2.1.2.1,())),()))
  else none
 else
  some (.inl (((),((),())),((u.2.1.1,(u.2.1.2.1,())),())))
def L_fq_3 (x:i_fq_3.den):Option (denO o_fq_3):=Qd l_fq_3 lots x
def F_fq (x:denP P_fq):FO P_fq R_fq:=
 if 0≤x.2.1 then
  ((x.1.2.2.1)[(x.2.1).toNat]?).bind fun y1=>
  (F_dn (y1,())).bind fun r2=>
  if 0≤x.2.1 then
   ((x.1.1.1)[(x.2.1).toNat]?).bind fun y3=>
   (F_fp (x.1.2.1,y3,())).bind fun r4=>
   let v5:=((x.1.1.2.1.length:Nat):Int)
   (L_fq_3 ((x.1,(x.2.1,((),((),(x.1.1.2.1,(v5,((0:Int),()))))))),(((([]:List (den YI)),((0:Int),(([]:List (den YI)),(false,(false,(false,((0:Int),(([]:List (den YI)),(([]:List (den YI)),(([]:List (den YI)),(([]:List (den YI)),()))))))))))),((r2.1.1.1,(r2.1.1.2.1,(r2.1.1.2.2.1,(r2.1.1.2.2.2.1,(r2.1.1.2.2.2.2.1,(r2.1.1.2.2.2.2.2.1,(r2.1.1.2.2.2.2.2.2.1,(r2.1.1.2.2.2.2.2.2.2.1,(r2.1.1.2.2.2.2.2.2.2.2.1,(r4.1.1,(([]:List (den YI)),()))))))))))),())),()))).bind fun z13=>
   match z13 with
   | .inl x14=>
    some ((x14.2.1.2.1,()),())
   | .inr z13_=>
    none
  else none
 else none
abbrev C_fq:Con:=⟨P_fq,R_fq,F_fq,false⟩
abbrev G_fq:Env:=[(60,C_dn),(76,C_fp),(77,C_ea)]
theorem g_fq:Qg Tryz.prog G_fq:=(Qa s_dn (Qa s_fp (Qa s_ea Qc)))
abbrev c_fq_3:Cut:=⟨i_fq_3,o_fq_3,fun x=>Qd l_fq_3 lots x⟩
theorem k_fq_3:Qy Tryz.prog 57 (.loop (nav Tryz.f36 [1,1,0,1,0,0])) c_fq_3:=
  Qh (L:=[]) hT g_fq (fun _ _=>by kernel_rfl) okP _
theorem r_fq (x):QN T G_fq [(3,c_fq_3)] Tryz.f36 C_fq.ps C_fq.rs x=C_fq.F x:=by kernel_rfl
theorem s_fq:Qb Tryz.prog 36 C_fq:=fnC (L:=[(3,c_fq_3)]) hT g_fq Tryz.f36 (okS okP (okS okP (okS (okS okP (okB (okU k_fq_3))) okP))) r_fq
abbrev R_fr:List VK:=[.g [.dat YI,.own 2 YI,.dat YI,.own 2 YI,.dat .bool,.dat .bool,.dat .bool,.dat YI,.own 2 YI,.own 2 YI,.own 2 YI,.own 2 YI]]
def F_fr (x:denP P_fg):FO P_fg R_fr:=
 (F_df (x.1,())).bind fun r1=>
 if (r1.1.1 !=(0:Int)) then
  some (((r1.1.1,(([]:List (den YI)),((0:Int),(([]:List (den YI)),(false,(false,(false,((0:Int),(([]:List (den YI)),(([]:List (den YI)),(([]:List (den YI)),(([]:List (den YI)),())))))))))))),()),())
 else
  (F_ce (x.1.1,x.2.1,())).bind fun r2=>
  if (!r2.1.1) then
   some ((((4:Int),(([]:List (den YI)),((0:Int),(([]:List (den YI)),(false,(false,(false,((0:Int),(([]:List (den YI)),(([]:List (den YI)),(([]:List (den YI)),(([]:List (den YI)),())))))))))))),()),())
  else
   (F_fq (x.1,x.2.1,())).bind fun r3=>
   some ((((0:Int),r3.1.1),()),())
abbrev C_fr:Con:=⟨P_fg,R_fr,F_fr,false⟩
abbrev G_fr:Env:=[(17,C_df),(35,C_ce),(36,C_fq)]
theorem g_fr:Qg Tryz.prog G_fr:=(Qa s_df (Qa s_ce (Qa s_fq Qc)))
theorem s_fr:Qb Tryz.prog 13 C_fr:=fnC (L:=[]) hT g_fr Tryz.f13 okP fun _=>by kernel_rfl
abbrev i_fs_4:Shp:={ slots:=[(0,.s (.dat Y30)),(1,.s (.dat Y30)),(12,.s (.dat YI)),(13,.s (.dat YI))],boxes:=[],rows:=[] }
def l_fs_4 (rec:i_fs_4.den→Option (denO o_f_2)) (u:i_fs_4.den):Option (denO o_f_2):=
 if (ltI u.1.2.2.2.1 u.1.2.2.1) then
  if 0≤u.1.2.2.2.1 then
   ((u.1.1)[(u.1.2.2.2.1).toNat]?).bind fun y6=>
   if 0≤u.1.2.2.2.1 then
    ((u.1.2.1)[(u.1.2.2.2.1).toNat]?).bind fun y7=>
    if (y6 !=y7) then
     some (.inr (.inl ((false,()),((),()))))
    else
     let v8:=(IntKind.i64.wrap (u.1.2.2.2.1+(1:Int)))
     rec ((u.1.1,(u.1.2.1,(u.1.2.2.1,(v8,())))),((),()))
   else none
  else none
 else
  some (.inl ((),((),())))
def L_fs_4 (x:i_fs_4.den):Option (denO o_f_2):=Qd l_fs_4 lots x
def F_fs (x:denP P_fp):FO P_fp R_a:=
 let v1:=((x.1.length:Nat):Int)
 let v2:=((x.2.1.length:Nat):Int)
 if (v1 !=v2) then
  some ((false,()),())
 else
  let v3:=((x.1.length:Nat):Int)
  (L_fs_4 ((x.1,(x.2.1,(v3,((0:Int),())))),((),()))).bind fun z9=>
  match z9 with
  | .inl x10=>
   some ((true,()),())
  | .inr z9_=>
   match z9_ with
   | .inl x11=>
    some ((x11.1.1,()),())
   | .inr z9__=>
    none
abbrev C_fs:Con:=⟨P_fp,R_a,F_fs,false⟩
abbrev c_fs_4:Cut:=⟨i_fs_4,o_f_2,fun x=>Qd l_fs_4 lots x⟩
theorem k_fs_4:Qy Tryz.prog 26 (.loop (nav Tryz.f34 [1,1,0,1,0,0])) c_fs_4:=
  Qh (L:=[]) hT g_a (fun _ _=>by kernel_rfl) okP _
theorem r_fs (x):QN T G_a [(4,c_fs_4)] Tryz.f34 C_fs.ps C_fs.rs x=C_fs.F x:=by kernel_rfl
theorem s_fs:Qb Tryz.prog 34 C_fs:=fnC (L:=[(4,c_fs_4)]) hT g_a Tryz.f34 (okS okP (okS okP (okS (okS okP (okB (okU k_fs_4))) okP))) r_fs
abbrev P_ft:List PK:=[.val Y41,.val Y41]
def F_ft (x:denP P_ft):FO P_ft R_a:=
 (F_fs (x.1.1,x.2.1.1,())).bind fun r1=>
 if r1.1.1=true then
  if (x.1.2.1==x.2.1.2.1)=true then
   (F_fs (x.1.2.2.1,x.2.1.2.2.1,())).bind fun r2=>
   if r2.1.1=true then
    if (x.1.2.2.2.1==x.2.1.2.2.2.1)=true then
     if (x.1.2.2.2.2.1==x.2.1.2.2.2.2.1)=true then
      if (x.1.2.2.2.2.2.1==x.2.1.2.2.2.2.2.1)=true then
       if (x.1.2.2.2.2.2.2.1==x.2.1.2.2.2.2.2.2.1)=true then
        (F_fs (x.1.2.2.2.2.2.2.2.1,x.2.1.2.2.2.2.2.2.2.1,())).bind fun r3=>
        if r3.1.1=true then
         (F_fs (x.1.2.2.2.2.2.2.2.2.1,x.2.1.2.2.2.2.2.2.2.2.1,())).bind fun r4=>
         some ((r4.1.1,()),())
        else
         some ((false,()),())
       else
        some ((false,()),())
      else
       some ((false,()),())
     else
      some ((false,()),())
    else
     some ((false,()),())
   else
    some ((false,()),())
  else
   some ((false,()),())
 else
  some ((false,()),())
abbrev C_ft:Con:=⟨P_ft,R_a,F_ft,false⟩
abbrev G_ft:Env:=[(34,C_fs)]
theorem g_ft:Qg Tryz.prog G_ft:=(Qa s_fs Qc)
theorem s_ft:Qb Tryz.prog 33 C_ft:=fnC (L:=[]) hT g_ft Tryz.f33 okP fun _=>by kernel_rfl
abbrev P_fu:List PK:=[.val Y43,.val Y43]
def F_fu (x:denP P_fu):FO P_fu R_a:=
 (F_ft (x.1.1,x.2.1.1,())).bind fun r1=>
 if r1.1.1=true then
  (F_fs (x.1.2.1,x.2.1.2.1,())).bind fun r2=>
  if r2.1.1=true then
   (F_fs (x.1.2.2.1,x.2.1.2.2.1,())).bind fun r3=>
   some ((r3.1.1,()),())
  else
   some ((false,()),())
 else
  some ((false,()),())
abbrev C_fu:Con:=⟨P_fu,R_a,F_fu,false⟩
abbrev G_fu:Env:=[(33,C_ft),(34,C_fs)]
theorem g_fu:Qg Tryz.prog G_fu:=(Qa s_ft (Qa s_fs Qc))
theorem s_fu:Qb Tryz.prog 12 C_fu:=fnC (L:=[]) hT g_fu Tryz.f12 okP fun _=>by kernel_rfl
abbrev i_fv_4:Shp:={ slots:=[(0,.s (.dat Y30)),(1,.s (.dat Y30)),(5,.s (.dat YI))],boxes:=[],rows:=[] }
def l_fv_4 (rec:i_fv_4.den→Option (denO o_f_2)) (u:i_fv_4.den):Option (denO o_f_2):=
 let v5:=((u.1.1.length:Nat):Int)
 if (ltI u.1.2.2.1 v5) then
  if 0≤u.1.2.2.1 then
   ((u.1.1)[(u.1.2.2.1).toNat]?).bind fun y6=>
   if 0≤u.1.2.2.1 then
    ((u.1.2.1)[(u.1.2.2.1).toNat]?).bind fun y7=>
    if (y6 !=y7) then
     some (.inr (.inl ((false,()),((),()))))
    else
     let v8:=(IntKind.i64.wrap (u.1.2.2.1+(1:Int)))
     rec ((u.1.1,(u.1.2.1,(v8,()))),((),()))
   else none
  else none
 else
  some (.inl ((),((),())))
def L_fv_4 (x:i_fv_4.den):Option (denO o_f_2):=Qd l_fv_4 lots x
def F_fv (x:denP P_fp):FO P_fp R_a:=
 let v1:=((x.1.length:Nat):Int)
 let v2:=((x.2.1.length:Nat):Int)
 if (v1 !=v2) then
  some ((false,()),())
 else
  (L_fv_4 ((x.1,(x.2.1,((0:Int),()))),((),()))).bind fun z9=>
  match z9 with
  | .inl x10=>
   some ((true,()),())
  | .inr z9_=>
   match z9_ with
   | .inl x11=>
    some ((x11.1.1,()),())
   | .inr z9__=>
    none
abbrev C_fv:Con:=⟨P_fp,R_a,F_fv,false⟩
abbrev c_fv_4:Cut:=⟨i_fv_4,o_f_2,fun x=>Qd l_fv_4 lots x⟩
theorem k_fv_4:Qy Tryz.prog 26 (.loop (nav Tryz.f14 [1,1,0,1,0,0])) c_fv_4:=
  Qh (L:=[]) hT g_a (fun _ _=>by kernel_rfl) okP _
theorem r_fv (x):QN T G_a [(4,c_fv_4)] Tryz.f14 C_fv.ps C_fv.rs x=C_fv.F x:=by kernel_rfl
theorem s_fv:Qb Tryz.prog 14 C_fv:=fnC (L:=[(4,c_fv_4)]) hT g_a Tryz.f14 (okS okP (okS okP (okS (okS okP (okB (okU k_fv_4))) okP))) r_fv
abbrev i_fw_16:Shp:={ slots:=[(3,.s (.ptr 3 0)),(5,.s (.ptr 5 0)),(6,.s (.ptr 6 0)),(8,.s (.dat YI))],boxes:=[(3,[.dat Y24,.dat Y25,.dat Y26,.dat Y26,.dat Y30,.dat Y31,.dat YI,.dat YI,.dat YI]),(5,[.dat YI,.dat Y24,.dat Y25,.dat Y26,.dat Y26,.own 2 YI,.own 42 Y41,.dat YI,.dat YI,.dat YI]),(6,[.dat YI,.dat Y24,.dat Y25,.dat Y26,.dat Y26,.dat Y30,.dat Y31,.dat YI,.dat YI,.dat YI])],rows:=[] }
abbrev o_fw_16:List (Ex×Shp):=[(.exit 2,{ slots:=[(3,.s (.ptr 3 0)),(5,.s (.ptr 5 0)),(6,.s (.ptr 6 0))],boxes:=[(3,[.dat Y24,.dat Y25,.dat Y26,.dat Y26,.dat Y30,.dat Y31,.dat YI,.dat YI,.dat YI]),(5,[.dat YI,.dat Y24,.dat Y25,.dat Y26,.dat Y26,.own 2 YI,.own 42 Y41,.dat YI,.dat YI,.dat YI]),(6,[.dat YI,.dat Y24,.dat Y25,.dat Y26,.dat Y26,.dat Y30,.dat Y31,.dat YI,.dat YI,.dat YI])],rows:=[] }),(.ret,{ slots:=[(2,.s (.dat .bool))],boxes:=[],rows:=[] })]
def l_fw_16 (rec:i_fw_16.den→Option (denO o_fw_16)) (u:i_fw_16.den):Option (denO o_fw_16):=
 let v14:=((u.2.1.1.2.2.2.2.2.1.length:Nat):Int)
 if (ltI u.1.2.2.2.1 v14) then
  (F_fr (((u.2.1.2.2.1.2.1,(u.2.1.2.2.1.2.2.1,(u.2.1.2.2.1.2.2.2.1,(u.2.1.2.2.1.2.2.2.2.1,())))),(u.2.1.2.2.1.2.2.2.2.2.1,(u.2.1.2.2.1.2.2.2.2.2.2.1,(u.2.1.2.2.1.2.2.2.2.2.2.2.1,(u.2.1.2.2.1.2.2.2.2.2.2.2.2.1,(u.2.1.2.2.1.2.2.2.2.2.2.2.2.2.1,())))))),u.1.2.2.2.1,())).bind fun r15=>
  (F_fr (((u.2.1.2.1.2.1,(u.2.1.2.1.2.2.1,(u.2.1.2.1.2.2.2.1,(u.2.1.2.1.2.2.2.2.1,())))),(u.2.1.2.1.2.2.2.2.2.1,(u.2.1.2.1.2.2.2.2.2.2.1,(u.2.1.2.1.2.2.2.2.2.2.2.1,(u.2.1.2.1.2.2.2.2.2.2.2.2.1,(u.2.1.2.1.2.2.2.2.2.2.2.2.2.1,())))))),u.1.2.2.2.1,())).bind fun r16=>
  (F_fu (((r15.1.1.2.1,(r15.1.1.2.2.1,(r15.1.1.2.2.2.1,(r15.1.1.2.2.2.2.1,(r15.1.1.2.2.2.2.2.1,(r15.1.1.2.2.2.2.2.2.1,(r15.1.1.2.2.2.2.2.2.2.1,(r15.1.1.2.2.2.2.2.2.2.2.1,(r15.1.1.2.2.2.2.2.2.2.2.2.1,()))))))))),(r15.1.1.2.2.2.2.2.2.2.2.2.2.1,(r15.1.1.2.2.2.2.2.2.2.2.2.2.2.1,()))),((r16.1.1.2.1,(r16.1.1.2.2.1,(r16.1.1.2.2.2.1,(r16.1.1.2.2.2.2.1,(r16.1.1.2.2.2.2.2.1,(r16.1.1.2.2.2.2.2.2.1,(r16.1.1.2.2.2.2.2.2.2.1,(r16.1.1.2.2.2.2.2.2.2.2.1,(r16.1.1.2.2.2.2.2.2.2.2.2.1,()))))))))),(r16.1.1.2.2.2.2.2.2.2.2.2.2.1,(r16.1.1.2.2.2.2.2.2.2.2.2.2.2.1,()))),())).bind fun r17=>
  if (!r17.1.1) then
   some (.inr (.inl ((false,()),((),()))))
  else
   let v18:=(IntKind.i64.wrap (u.1.2.2.2.1+(1:Int)))
   rec (((),((),((),(v18,())))),((u.2.1.1,(u.2.1.2.1,(u.2.1.2.2.1,()))),()))
 else
  some (.inl (((),((),((),()))),((u.2.1.1,(u.2.1.2.1,(u.2.1.2.2.1,()))),())))
def L_fw_16 (x:i_fw_16.den):Option (denO o_fw_16):=Qd l_fw_16 lots x
abbrev i_fw_10:Shp:={ slots:=[(3,.s (.ptr 3 0)),(4,.s (.dat YI)),(5,.s (.ptr 5 0)),(6,.s (.ptr 6 0)),(7,.s (.dat YI))],boxes:=[(3,[.dat Y24,.dat Y25,.dat Y26,.dat Y26,.dat Y30,.dat Y31,.dat YI,.dat YI,.dat YI]),(5,[.dat YI,.dat Y24,.dat Y25,.dat Y26,.dat Y26,.own 2 YI,.own 42 Y41,.dat YI,.dat YI,.dat YI]),(6,[.dat YI,.dat Y24,.dat Y25,.dat Y26,.dat Y26,.dat Y30,.dat Y31,.dat YI,.dat YI,.dat YI])],rows:=[] }
abbrev o_fw_10:List (Ex×Shp):=[(.exit 0,{ slots:=[(3,.s (.ptr 3 0)),(5,.s (.ptr 5 0)),(6,.s (.ptr 6 0))],boxes:=[(3,[.dat Y24,.dat Y25,.dat Y26,.dat Y26,.dat Y30,.dat Y31,.dat YI,.dat YI,.dat YI]),(5,[.dat YI,.dat Y24,.dat Y25,.dat Y26,.dat Y26,.own 2 YI,.own 42 Y41,.dat YI,.dat YI,.dat YI]),(6,[.dat YI,.dat Y24,.dat Y25,.dat Y26,.dat Y26,.dat Y30,.dat Y31,.dat YI,.dat YI,.dat YI])],rows:=[] }),(.ret,{ slots:=[(2,.s (.dat .bool))],boxes:=[],rows:=[] })]
def l_fw_10 (rec:i_fw_10.den→Option (denO o_fw_10)) (u:i_fw_10.den):Option (denO o_fw_10):=
 if (ltI u.1.2.2.2.2.1 u.1.2.1) then
  (F_fo (((u.2.1.2.2.1.2.1,(u.2.1.2.2.1.2.2.1,(u.2.1.2.2.1.2.2.2.1,(u.2.1.2.2.1.2.2.2.2.1,())))),(u.2.1.2.2.1.2.2.2.2.2.1,(u.2.1.2.2.1.2.2.2.2.2.2.1,(u.2.1.2.2.1.2.2.2.2.2.2.2.1,(u.2.1.2.2.1.2.2.2.2.2.2.2.2.1,(u.2.1.2.2.1.2.2.2.2.2.2.2.2.2.1,())))))),())).bind fun r7=>
  if (r7.1.1.1 !=(0:Int)) then
   some (.inr (.inl ((false,()),((),()))))
  else
   let v8:=(IntKind.i64.wrap (u.1.2.2.2.2.1+(1:Int)))
   rec (((),(u.1.2.1,((),((),(v8,()))))),((u.2.1.1,(u.2.1.2.1,(r7.1.1,()))),()))
 else
  some (.inl (((),((),((),()))),((u.2.1.1,(u.2.1.2.1,(u.2.1.2.2.1,()))),())))
def L_fw_10 (x:i_fw_10.den):Option (denO o_fw_10):=Qd l_fw_10 lots x
def F_fw (x:denP P_a):FO P_a R_a:=
 (F_a (x.1,())).bind fun r1=>
 if r1.1.1 then
  some ((true,()),())
 else
  (F_ca (x.1,())).bind fun r2=>
  (F_cb (x.1,(4:Int),(12:Int),())).bind fun r3=>
  (F_fg (r2.1.1,r3.1.1,())).bind fun r4=>
  if (r4.1.1.1 !=(0:Int)) then
   (F_fn (r2.1.1,r3.1.1,())).bind fun r5=>
   some (((r5.1.1.1==r4.1.1.1),()),())
  else
   (L_fw_10 (((),(r3.1.1,((),((),((0:Int),()))))),(((r2.1.1.1.1,(r2.1.1.1.2.1,(r2.1.1.1.2.2.1,(r2.1.1.1.2.2.2.1,(r2.1.1.2.1,(r2.1.1.2.2.1,(r2.1.1.2.2.2.1,(r2.1.1.2.2.2.2.1,(r2.1.1.2.2.2.2.2.1,()))))))))),(r4.1.1,(((0:Int),(r2.1.1.1.1,(r2.1.1.1.2.1,(r2.1.1.1.2.2.1,(r2.1.1.1.2.2.2.1,(r2.1.1.2.1,(r2.1.1.2.2.1,(r2.1.1.2.2.2.1,(r2.1.1.2.2.2.2.1,(r2.1.1.2.2.2.2.2.1,())))))))))),()))),()))).bind fun z9=>
   match z9 with
   | .inl x10=>
    (L_fw_16 (((),((),((),((0:Int),())))),((x10.2.1.1,(x10.2.1.2.1,(x10.2.1.2.2.1,()))),()))).bind fun z19=>
    match z19 with
    | .inl x20=>
     (F_fv (x20.2.1.2.2.1.2.2.2.2.2.1,x20.2.1.2.1.2.2.2.2.2.1,())).bind fun r21=>
     if r21.1.1=true then
      if (x20.2.1.2.2.1.2.2.2.2.2.2.2.2.2.1==x20.2.1.2.1.2.2.2.2.2.2.2.2.2.1)=true then
       if (x20.2.1.2.2.1.2.2.2.2.2.2.2.2.1==x20.2.1.2.1.2.2.2.2.2.2.2.2.1)=true then
        let v22:=((x20.2.1.2.1.2.2.2.2.2.2.1.length:Nat):Int)
        let v23:=((x20.2.1.1.2.2.2.2.2.1.length:Nat):Int)
        some (((v22==v23),()),())
       else
        some ((false,()),())
      else
       some ((false,()),())
     else
      some ((false,()),())
    | .inr z19_=>
     match z19_ with
     | .inl x24=>
      some ((x24.1.1,()),())
     | .inr z19__=>
      none
   | .inr z9_=>
    match z9_ with
    | .inl x25=>
     some ((x25.1.1,()),())
    | .inr z9__=>
     none
abbrev C_fw:Con:=⟨P_a,R_a,F_fw,false⟩
abbrev G_fw:Env:=[(6,C_a),(7,C_ca),(8,C_cb),(9,C_fg),(10,C_fn),(11,C_fo),(12,C_fu),(13,C_fr),(14,C_fv)]
theorem g_fw:Qg Tryz.prog G_fw:=(Qa s_a (Qa s_ca (Qa s_cb (Qa s_fg (Qa s_fn (Qa s_fo (Qa s_fu (Qa s_fr (Qa s_fv Qc)))))))))
abbrev c_fw_16:Cut:=⟨i_fw_16,o_fw_16,fun x=>Qd l_fw_16 lots x⟩
theorem k_fw_16:Qy Tryz.prog 95 (.loop (nav Tryz.f3 [1,1,1,1,1,1,1,1,0,1,0,0])) c_fw_16:=
  Qh (L:=[]) hT g_fw (fun _ _=>by kernel_rfl) okP _
abbrev c_fw_10:Cut:=⟨i_fw_10,o_fw_10,fun x=>Qd l_fw_10 lots x⟩
theorem k_fw_10:Qy Tryz.prog 95 (.loop (nav Tryz.f3 [1,1,1,1,1,1,1,0,1,0,0])) c_fw_10:=
  Qh (L:=[]) hT g_fw (fun _ _=>by kernel_rfl) okP _
theorem r_fw (x):QN T G_fw [(16,c_fw_16),(10,c_fw_10)] Tryz.f3 C_fw.ps C_fw.rs x=C_fw.F x:=by kernel_rfl
theorem s_fw:Qb Tryz.prog 3 C_fw:=fnC (L:=[(16,c_fw_16),(10,c_fw_10)]) hT g_fw Tryz.f3 (okS okP (okS okP (okS okP (okS okP (okS okP (okS okP (okS okP (okS (okS okP (okB (okU k_fw_10))) (okS (okS okP (okB (okU k_fw_16))) okP))))))))) r_fw
theorem q_fw:QeO Tryz.prog 3 C_fw:=
  Qvp (L:=[(16,c_fw_16),(10,c_fw_10)]) hT g_fw Tryz.f3 (by kernel_rfl) (by kernel_rfl) (okS okP (okS okP (okS okP (okS okP (okS okP (okS okP (okS okP (okS (okS okP (okB (okU k_fw_10))) (okS (okS okP (okB (okU k_fw_16))) okP))))))))) r_fw
end Go.Proofs.YticbdcmkcghijaaGreatDoor
