/- The functions of the laws, each as a plain function of data (F), and that the program's text does what F says. Printed by a program (wip/tools/gen.py). -/
import Derived.Test.YtkkljegcnnfanaaGreatDoorGa3
set_option linter.unusedVariables false
set_option linter.unusedSimpArgs false
namespace Go.Proofs.YtkkljegcnnfanaaGreatDoor
open Go Go.RowKit S Go.Proofs
set_option maxRecDepth 100000
def F_fe (x:denP P_bt):FO P_bt R_ap:=
 (F_do (((x.1.1,(x.1.2.1,(x.1.2.2.1,(x.1.2.2.2.1,())))),(x.1.2.2.2.2.1,(x.1.2.2.2.2.2.1,(x.1.2.2.2.2.2.2.1,(x.1.2.2.2.2.2.2.2.1,(x.1.2.2.2.2.2.2.2.2.1,())))))),())).bind fun r1=>
 if 0≤r1.1.1∧r1.1.1< ((x.1.2.2.2.2.2.1.length:Nat):Int) then
  ((x.1.2.2.2.2.2.1)[(r1.1.1).toNat]?).bind fun y2=>
  (F_dt ((x.1.1,(x.1.2.1,(x.1.2.2.1,(x.1.2.2.2.1,())))),r1.1.1,())).bind fun r3=>
  (F_fd (y2,r3.1.1,x.1.2.2.2.2.1,(1:Int),())).bind fun r4=>
  if 0≤r1.1.1∧r1.1.1< ((x.1.2.2.2.2.2.1.length:Nat):Int) then
   ((x.1.2.2.2.2.2.1)[(r1.1.1).toNat]?).bind fun y5=>
   let v6:=(x.1.2.2.2.2.2.1.set (r1.1.1).toNat (r4.1.1.2.2.2.1,(r4.1.1.2.2.2.2.1,(r4.1.1.2.2.2.2.2.1,(r4.1.1.2.2.2.2.2.2.1,(r4.1.1.2.2.2.2.2.2.2.1,(r4.1.1.2.2.2.2.2.2.2.2.1,(r4.1.1.2.2.2.2.2.2.2.2.2.1,(r4.1.1.2.2.2.2.2.2.2.2.2.2.1,(r4.1.1.2.2.2.2.2.2.2.2.2.2.2.1,()))))))))))
   (F_cq (x.1.2.2.1,(r1.1.1,(r4.1.1.2.2.1,())),())).bind fun r7=>
   if r7.1.1 then
    if 0≤r4.1.1.2.2.1∧r4.1.1.2.2.1< ((v6.length:Nat):Int) then
     ((v6)[(r4.1.1.2.2.1).toNat]?).bind fun y8=>
     let v9:=(v6.set (r4.1.1.2.2.1).toNat (y8.1,(y8.2.1,(y8.2.2.1,(y8.2.2.2.1,(y8.2.2.2.2.1,(true,y8.2.2.2.2.2.2)))))))
     let v10:=(IntKind.i64.wrap (x.1.2.2.2.2.2.2.2.1-(1:Int)))
     if (v10==(0:Int)) then
      let v11:=(IntKind.i64.wrap (x.1.2.2.2.2.2.2.1+(1:Int)))
      let v12:=((x.1.2.2.2.1.length:Nat):Int)
      if v12=0 then none else
      let v13:=((v11).tmod v12)
      if 0≤v13 then
       ((x.1.2.2.2.1)[(v13).toNat]?).bind fun y14=>
       let v15:=(IntKind.i64.wrap (x.1.2.2.2.2.2.2.2.2.1+(1:Int)))
       some ((),((x.1.1,(x.1.2.1,(x.1.2.2.1,(x.1.2.2.2.1,(r4.1.1.2.2.2.2.2.2.2.2.2.2.2.2.1,(v9,(v13,(y14.2.1,(v15,()))))))))),()))
      else none
     else
      let v16:=(IntKind.i64.wrap (x.1.2.2.2.2.2.2.2.2.1+(1:Int)))
      some ((),((x.1.1,(x.1.2.1,(x.1.2.2.1,(x.1.2.2.2.1,(r4.1.1.2.2.2.2.2.2.2.2.2.2.2.2.1,(v9,(x.1.2.2.2.2.2.2.1,(v10,(v16,()))))))))),()))
    else none
   else
    let v17:=(IntKind.i64.wrap (x.1.2.2.2.2.2.2.2.1-(1:Int)))
    if (v17==(0:Int)) then
     let v18:=(IntKind.i64.wrap (x.1.2.2.2.2.2.2.1+(1:Int)))
     let v19:=((x.1.2.2.2.1.length:Nat):Int)
     if v19=0 then none else
     let v20:=((v18).tmod v19)
     if 0≤v20 then
      ((x.1.2.2.2.1)[(v20).toNat]?).bind fun y21=>
      let v22:=(IntKind.i64.wrap (x.1.2.2.2.2.2.2.2.2.1+(1:Int)))
      some ((),((x.1.1,(x.1.2.1,(x.1.2.2.1,(x.1.2.2.2.1,(r4.1.1.2.2.2.2.2.2.2.2.2.2.2.2.1,(v6,(v20,(y21.2.1,(v22,()))))))))),()))
     else none
    else
     let v23:=(IntKind.i64.wrap (x.1.2.2.2.2.2.2.2.2.1+(1:Int)))
     some ((),((x.1.1,(x.1.2.1,(x.1.2.2.1,(x.1.2.2.2.1,(r4.1.1.2.2.2.2.2.2.2.2.2.2.2.2.1,(v6,(x.1.2.2.2.2.2.2.1,(v17,(v23,()))))))))),()))
  else none
 else none
abbrev C_fe:Con:=⟨P_bt,R_ap,F_fe,false⟩
abbrev G_fe:Env:=[(38,C_dt),(68,C_do),(89,C_fd),(90,C_cq)]
theorem g_fe:Qg Tryz.prog G_fe:=(Qa s_dt (Qa s_do (Qa s_fd (Qa s_cq Qd))))
theorem s_fe:Qb Tryz.prog 33 C_fe:=fnC (L:=[]) hT g_fe Tryz.f33 okP fun _=>by kernel_rfl
abbrev R_ff:List VK:=[.g [.dat YI,.dat Y24,.dat Y25,.dat Y26,.dat Y26,.own 2 YI,.own 46 Y45,.dat YI,.dat YI,.dat YI]]
def F_ff (x:denP P_de):FO P_de R_ff:=
 (F_de (x.1,())).bind fun r1=>
 if (r1.1.1 !=(0:Int)) then
  some (((r1.1.1,(([]:List (den Y30)),(([]:List (den Y122)),(([]:List (den Y38)),(([]:List (den Y38)),(([]:List (den YI)),(([]:List (den Y45)),((0:Int),((0:Int),((0:Int),())))))))))),()),())
 else
  if (x.1.2.2.2.2.2.1==(1000000:Int)) then
   some ((((3:Int),(([]:List (den Y30)),(([]:List (den Y122)),(([]:List (den Y38)),(([]:List (den Y38)),(([]:List (den YI)),(([]:List (den Y45)),((0:Int),((0:Int),((0:Int),())))))))))),()),())
  else
   (F_dn (x.1,())).bind fun r2=>
   (F_fe (r2.1.1,())).bind fun r3=>
   some ((((0:Int),r3.2.1),()),())
abbrev C_ff:Con:=⟨P_de,R_ff,F_ff,false⟩
abbrev G_ff:Env:=[(15,C_de),(32,C_dn),(33,C_fe)]
theorem g_ff:Qg Tryz.prog G_ff:=(Qa s_de (Qa s_dn (Qa s_fe Qd)))
theorem s_ff:Qb Tryz.prog 8 C_ff:=fnC (L:=[]) hT g_ff Tryz.f8 okP fun _=>by kernel_rfl
def l_fg_4 (rec:i_ae_2.den→Option (denO o_l_4)) (u:i_ae_2.den):Option (denO o_l_4):=
 let v7:=((u.1.1.length:Nat):Int)
 if (ltI u.1.2.1 v7) then
  if 0≤u.1.2.1 then
   ((u.1.1)[(u.1.2.1).toNat]?).bind fun y8=>
   (F_e (y8,(0:Int),(4294967295:Int),())).bind fun r9=>
   if (!r9.1.1) then
    some (.inr (.inl (((3:Int),()),((),()))))
   else
    let v10:=(IntKind.i64.wrap (u.1.2.1+(1:Int)))
    rec ((u.1.1,(v10,())),((),()))
  else none
 else
  some (.inl ((),((),())))
def L_fg_4 (x:i_ae_2.den):Option (denO o_l_4):=Qc l_fg_4 lots x
def F_fg (x:denP P_ae):FO P_ae R_c:=
 let v1:=((x.1.length:Nat):Int)
 let v2:=((v1).tmod (8:Int))
 if (v2 !=(0:Int))=false then
  let v3:=((x.1.length:Nat):Int)
  if (ltI v3 (8:Int))=false then
   let v4:=((x.1.length:Nat):Int)
   if (ltI (192:Int) v4) then
    some (((1:Int),()),())
   else
    (L_fg_4 ((x.1,((0:Int),())),((),()))).bind fun z11=>
    match z11 with
    | .inl x12=>
     some (((0:Int),()),())
    | .inr z11_=>
     match z11_ with
     | .inl x13=>
      some ((x13.1.1,()),())
     | .inr z11__=>
      none
  else
   some (((1:Int),()),())
 else
  some (((1:Int),()),())
abbrev C_fg:Con:=⟨P_ae,R_c,F_fg,false⟩
theorem g_fg:Qg Tryz.prog G_h:=(Qa s_e Qd)
abbrev c_fg_4:Cut:=⟨i_ae_2,o_l_4,fun x=>Qc l_fg_4 lots x⟩
theorem k_fg_4:Qu Tryz.prog 30 (.loop (nav Tryz.f126 [1,1,0,1,0,0])) c_fg_4:=
  Qi (L:=[]) hT g_fg (fun _ _=>by kernel_rfl) okP _
theorem r_fg (x):QK T G_h [(4,c_fg_4)] Tryz.f126 C_fg.ps C_fg.rs x=C_fg.F x:=by kernel_rfl
theorem s_fg:Qb Tryz.prog 126 C_fg:=fnC (L:=[(4,c_fg_4)]) hT g_fg Tryz.f126 (okS okP (okS okP (okS (okS okP (okB (okU k_fg_4))) okP))) r_fg
def F_fh (x:denP P_ae):FO P_ae R_a:=
 (F_fg (x.1,())).bind fun r1=>
 if (r1.1.1==(0:Int))=true then
  let v2:=((x.1.length:Nat):Int)
  some (((v2==(192:Int)),()),())
 else
  some ((false,()),())
abbrev C_fh:Con:=⟨P_ae,R_a,F_fh,false⟩
abbrev G_fh:Env:=[(126,C_fg)]
theorem g_fh:Qg Tryz.prog G_fh:=(Qa s_fg Qd)
theorem s_fh:Qb Tryz.prog 92 C_fh:=fnC (L:=[]) hT g_fh Tryz.f92 okP fun _=>by kernel_rfl
def F_fi (x:denP P_an):FO P_an R_c:=
 let v1:=((x.1.1.length:Nat):Int)
 if (v1 !=(16:Int))=false then
  let v2:=((x.1.2.2.1.length:Nat):Int)
  if (v2 !=(11:Int))=false then
   ((x.1.1)[((0:Int)).toNat]?).bind fun y3=>
   if (y3 !=(0:Int)) then
    some (((1:Int),()),())
   else
    (F_ae (x.1.1,())).bind fun r4=>
    if (!r4.1.1)=false then
     (F_ad (x.1.2.1,())).bind fun r5=>
     if (!r5.1.1)=false then
      (F_ae (x.1.2.2.1,())).bind fun r6=>
      if (!r6.1.1)=false then
       (F_ae (x.1.2.2.2.2.2.2.2.1,())).bind fun r7=>
       if (!r7.1.1)=false then
        (F_ae (x.1.2.2.2.2.2.2.2.2.1,())).bind fun r8=>
        if (!r8.1.1) then
         some (((3:Int),()),())
        else
         let v9:=((x.1.2.2.2.2.2.2.2.1.length:Nat):Int)
         if (ltI (40:Int) v9)=false then
          let v10:=((x.1.2.2.2.2.2.2.2.2.1.length:Nat):Int)
          if (ltI (40:Int) v10) then
           some (((2:Int),()),())
          else
           (F_e (x.1.2.2.2.2.2.2.1,(0:Int),(1000000000:Int),())).bind fun r11=>
           if (!r11.1.1) then
            some (((3:Int),()),())
           else
            ((x.1.2.2.1)[((0:Int)).toNat]?).bind fun y12=>
            if (ltI (3:Int) y12)=false then
             ((x.1.2.2.1)[((7:Int)).toNat]?).bind fun y13=>
             if (ltI (7:Int) y13)=false then
              ((x.1.2.2.1)[((10:Int)).toNat]?).bind fun y14=>
              if (ltI (8:Int) y14)=false then
               ((x.1.2.2.1)[((6:Int)).toNat]?).bind fun y15=>
               if (y15 !=(0:Int))=false then
                ((x.1.2.2.1)[((8:Int)).toNat]?).bind fun y16=>
                if (y16 !=(0:Int)) then
                 some (((1:Int),()),())
                else
                 some (((0:Int),()),())
               else
                some (((1:Int),()),())
              else
               some (((1:Int),()),())
             else
              some (((1:Int),()),())
            else
             some (((1:Int),()),())
         else
          some (((2:Int),()),())
       else
        some (((3:Int),()),())
      else
       some (((3:Int),()),())
     else
      some (((3:Int),()),())
    else
     some (((3:Int),()),())
  else
   some (((1:Int),()),())
 else
  some (((1:Int),()),())
abbrev C_fi:Con:=⟨P_an,R_c,F_fi,false⟩
abbrev G_fi:Env:=[(94,C_e),(117,C_ae),(144,C_ad)]
theorem g_fi:Qg Tryz.prog G_fi:=(Qa s_e (Qa s_ae (Qa s_ad Qd)))
theorem s_fi:Qb Tryz.prog 93 C_fi:=fnC (L:=[]) hT g_fi Tryz.f93 okP fun _=>by kernel_rfl
abbrev i_fj_8:Shp:={ slots:=[(0,.s (.pd Y28)),(8,.s (.dat YI)),(9,.s (.dat YI))],boxes:=[],rows:=[] }
abbrev o_fj_8:List (Ex×Shp):=[(.exit 2,{ slots:=[(0,.s (.pd Y28)),(8,.s (.dat YI)),(9,.s (.dat YI))],boxes:=[],rows:=[] })]
def l_fj_8 (rec:i_fj_8.den→Option (denO o_fj_8)) (u:i_fj_8.den):Option (denO o_fj_8):=
 if 0≤u.1.2.2.1 then
  ((u.1.1.2.2.2.1)[(u.1.2.2.1).toNat]?).bind fun y11=>
  if (leI y11.2.1 u.1.2.1) then
   if 0≤u.1.2.2.1 then
    ((u.1.1.2.2.2.1)[(u.1.2.2.1).toNat]?).bind fun y12=>
    let v13:=(IntKind.i64.wrap (u.1.2.1-y12.2.1))
    let v14:=(IntKind.i64.wrap (u.1.2.2.1+(1:Int)))
    rec ((u.1.1,(v13,(v14,()))),((),()))
   else none
  else
   some (.inl ((u.1.1,(u.1.2.1,(u.1.2.2.1,()))),((),())))
 else none
def L_fj_8 (x:i_fj_8.den):Option (denO o_fj_8):=Qc l_fj_8 lots x
abbrev i_fj_3:Shp:={ slots:=[(0,.s (.pd Y28)),(1,.s (.dat YI)),(6,.s (.dat YI)),(7,.s (.dat YI))],boxes:=[],rows:=[] }
def l_fj_3 (rec:i_fj_3.den→Option (denO o_dd_3)) (u:i_fj_3.den):Option (denO o_dd_3):=
 let v2:=((u.1.1.2.2.2.1.length:Nat):Int)
 if (ltI u.1.2.2.2.1 v2) then
  if 0≤u.1.2.2.2.1 then
   ((u.1.1.2.2.2.1)[(u.1.2.2.2.1).toNat]?).bind fun y3=>
   let v4:=(IntKind.i64.wrap (u.1.2.2.1+y3.2.1))
   let v5:=(IntKind.i64.wrap (u.1.2.2.2.1+(1:Int)))
   rec ((u.1.1,(u.1.2.1,(v4,(v5,())))),((),()))
  else none
 else
  some (.inl ((u.1.1,(u.1.2.1,(u.1.2.2.1,()))),((),())))
def L_fj_3 (x:i_fj_3.den):Option (denO o_dd_3):=Qc l_fj_3 lots x
def F_fj (x:denP P_h):FO P_h R_aw:=
 (L_fj_3 ((x.1,(x.2.1,((0:Int),((0:Int),())))),((),()))).bind fun z6=>
 match z6 with
 | .inl x7=>
  if x7.1.2.2.1=0 then none else
  let v8:=((x7.1.2.1).tmod x7.1.2.2.1)
  (L_fj_8 ((x7.1.1,(v8,((0:Int),()))),((),()))).bind fun z15=>
  match z15 with
  | .inl x16=>
   if 0≤x16.1.2.2.1 then
    ((x16.1.1.2.2.2.1)[(x16.1.2.2.1).toNat]?).bind fun y17=>
    let v18:=(IntKind.i64.wrap (y17.2.1-x16.1.2.1))
    some ((x16.1.2.2.1,v18,()),())
   else none
  | .inr z15_=>
   none
 | .inr z6_=>
  none
abbrev C_fj:Con:=⟨P_h,R_aw,F_fj,false⟩
abbrev c_fj_8:Cut:=⟨i_fj_8,o_fj_8,fun x=>Qc l_fj_8 lots x⟩
theorem k_fj_8:Qu Tryz.prog 65 (.loop (nav Tryz.f95 [1,1,1,1,1,0,0,0])) c_fj_8:=
  Qi (L:=[]) hT g_a (fun _ _=>by kernel_rfl) okP _
abbrev c_fj_3:Cut:=⟨i_fj_3,o_dd_3,fun x=>Qc l_fj_3 lots x⟩
theorem k_fj_3:Qu Tryz.prog 65 (.loop (nav Tryz.f95 [1,1,0,1,0,0])) c_fj_3:=
  Qi (L:=[]) hT g_a (fun _ _=>by kernel_rfl) okP _
theorem r_fj (x):QK T G_a [(8,c_fj_8),(3,c_fj_3)] Tryz.f95 C_fj.ps C_fj.rs x=C_fj.F x:=by kernel_rfl
theorem s_fj:Qb Tryz.prog 95 C_fj:=fnC (L:=[(8,c_fj_8),(3,c_fj_3)]) hT g_a Tryz.f95 (okS okP (okS okP (okS (okS okP (okB (okU k_fj_3))) (okS okP (okS okP (okS (okB (okU k_fj_8)) okP)))))) r_fj
abbrev i_fk_7:Shp:={ slots:=[(0,.s (.pd Y32)),(4,.s (.dat YI))],boxes:=[],rows:=[] }
abbrev o_fk_7:List (Ex×Shp):=[(.exit 0,{ slots:=[(0,.s (.pd Y32))],boxes:=[],rows:=[] }),(.ret,{ slots:=[(2,.s (.dat YI))],boxes:=[],rows:=[] })]
def l_fk_7 (rec:i_fk_7.den→Option (denO o_fk_7)) (u:i_fk_7.den):Option (denO o_fk_7):=
 let v7:=((u.1.1.2.2.1.length:Nat):Int)
 if (ltI u.1.2.1 v7) then
  if 0≤u.1.2.1 then
   ((u.1.1.2.2.1)[(u.1.2.1).toNat]?).bind fun y8=>
   (F_fi (y8,())).bind fun r9=>
   if (r9.1.1 !=(0:Int)) then
    some (.inr (.inl ((r9.1.1,()),((),()))))
   else
    let v10:=(IntKind.i64.wrap (u.1.2.1+(1:Int)))
    rec ((u.1.1,(v10,())),((),()))
  else none
 else
  some (.inl ((u.1.1,()),((),())))
def L_fk_7 (x:i_fk_7.den):Option (denO o_fk_7):=Qc l_fk_7 lots x
def F_fk (x:denP P_do):FO P_do R_c:=
 (F_x (x.1.1,())).bind fun r1=>
 if (r1.1.1 !=(0:Int)) then
  some ((r1.1.1,()),())
 else
  (F_fh (x.1.2.1,())).bind fun r2=>
  if (!r2.1.1)=false then
   let v3:=((x.1.2.2.1.length:Nat):Int)
   let v4:=((x.1.1.1.length:Nat):Int)
   if (v3 !=v4) then
    some (((1:Int),()),())
   else
    (L_fk_7 ((x.1,((0:Int),())),((),()))).bind fun z11=>
    match z11 with
    | .inl x12=>
     (F_e (x12.1.1.2.2.2.2.2.1,(0:Int),(1000000:Int),())).bind fun r13=>
     if (!r13.1.1) then
      some (((3:Int),()),())
     else
      (F_fj (x12.1.1.1,x12.1.1.2.2.2.2.2.1,())).bind fun r14=>
      if (x12.1.1.2.2.2.1 !=r14.1.1)=false then
       if (x12.1.1.2.2.2.2.1 !=r14.1.2.1) then
        some (((1:Int),()),())
       else
        some (((0:Int),()),())
      else
       some (((1:Int),()),())
    | .inr z11_=>
     match z11_ with
     | .inl x15=>
      some ((x15.1.1,()),())
     | .inr z11__=>
      none
  else
   some (((1:Int),()),())
abbrev C_fk:Con:=⟨P_do,R_c,F_fk,false⟩
abbrev G_fk:Env:=[(91,C_x),(92,C_fh),(93,C_fi),(94,C_e),(95,C_fj)]
theorem g_fk:Qg Tryz.prog G_fk:=(Qa s_x (Qa s_fh (Qa s_fi (Qa s_e (Qa s_fj Qd)))))
abbrev c_fk_7:Cut:=⟨i_fk_7,o_fk_7,fun x=>Qc l_fk_7 lots x⟩
theorem k_fk_7:Qu Tryz.prog 85 (.loop (nav Tryz.f34 [1,1,1,0,1,0,0])) c_fk_7:=
  Qi (L:=[]) hT g_fk (fun _ _=>by kernel_rfl) okP _
theorem r_fk (x):QK T G_fk [(7,c_fk_7)] Tryz.f34 C_fk.ps C_fk.rs x=C_fk.F x:=by kernel_rfl
theorem s_fk:Qb Tryz.prog 34 C_fk:=fnC (L:=[(7,c_fk_7)]) hT g_fk Tryz.f34 (okS okP (okS okP (okS okP (okS (okS okP (okB (okU k_fk_7))) okP)))) r_fk
abbrev i_fl_3:Shp:={ slots:=[(1,.s (.ptr 1 0)),(2,.s (.ptr 2 0)),(3,.s (.ptr 3 0)),(4,.s (.dat YI))],boxes:=[(1,[.dat Y24,.dat Y25,.dat Y26,.dat Y26,.dat Y30,.dat Y31,.dat YI,.dat YI,.dat YI]),(2,[.own 30 Y30,.own 123 Y122,.own 53 Y38,.own 39 Y38,.own 2 YI,.own 46 Y45,.dat YI,.dat YI,.dat YI]),(3,[.own 30 Y30,.own 123 Y122,.own 53 Y38,.own 39 Y38,.own 2 YI,.own 46 Y45,.dat YI,.dat YI,.dat YI])],rows:=[] }
abbrev o_fl_3:List (Ex×Shp):=[(.exit 0,{ slots:=[(2,.s (.ptr 2 0)),(3,.s (.ptr 3 0))],boxes:=[(2,[.own 30 Y30,.own 123 Y122,.own 53 Y38,.own 39 Y38,.own 2 YI,.own 46 Y45,.dat YI,.dat YI,.dat YI]),(3,[.own 30 Y30,.own 123 Y122,.own 53 Y38,.own 39 Y38,.own 2 YI,.own 46 Y45,.dat YI,.dat YI,.dat YI])],rows:=[] })]
def l_fl_3 (rec:i_fl_3.den→Option (denO o_fl_3)) (u:i_fl_3.den):Option (denO o_fl_3):=
 let v5:=((u.2.1.1.2.2.2.2.2.1.length:Nat):Int)
 if (ltI u.1.2.2.2.1 v5) then
  if 0≤u.1.2.2.2.1 then
   ((u.2.1.1.2.2.2.2.2.1)[(u.1.2.2.2.1).toNat]?).bind fun y6=>
   (F_al (y6,())).bind fun r7=>
   if (u.2.1.2.2.1.2.2.2.2.2.1.length+[r7.1.1].length)*120≤140737488355328 then
    let v8:=(u.2.1.2.2.1.2.2.2.2.2.1++[r7.1.1])
    let v9:=(IntKind.i64.wrap (u.1.2.2.2.1+(1:Int)))
    rec (((),((),((),(v9,())))),((u.2.1.1,(u.2.1.2.1,((u.2.1.2.2.1.1,(u.2.1.2.2.1.2.1,(u.2.1.2.2.1.2.2.1,(u.2.1.2.2.1.2.2.2.1,(u.2.1.2.2.1.2.2.2.2.1,(v8,(u.2.1.2.2.1.2.2.2.2.2.2.1,(u.2.1.2.2.1.2.2.2.2.2.2.2.1,(u.2.1.2.2.1.2.2.2.2.2.2.2.2.1,()))))))))),()))),()))
   else none
  else none
 else
  some (.inl (((),((),())),((u.2.1.2.1,(u.2.1.2.2.1,())),())))
def L_fl_3 (x:i_fl_3.den):Option (denO o_fl_3):=Qc l_fl_3 lots x
def F_fl (x:denP P_de):FO P_de R_ah:=
 (F_ac (x.1.1,())).bind fun r1=>
 (F_ak (x.1.2.1,())).bind fun r2=>
 (L_fl_3 (((),((),((),((0:Int),())))),(((x.1.1.1,(x.1.1.2.1,(x.1.1.2.2.1,(x.1.1.2.2.2.1,(x.1.2.1,(x.1.2.2.1,(x.1.2.2.2.1,(x.1.2.2.2.2.1,(x.1.2.2.2.2.2.1,()))))))))),((([]:List (den Y30)),(([]:List (den Y122)),(([]:List (den Y38)),(([]:List (den Y38)),(([]:List (den YI)),(([]:List (den Y45)),((0:Int),((0:Int),((0:Int),()))))))))),((r1.1.1.1,(r1.1.1.2.1,(r1.1.1.2.2.1,(r1.1.1.2.2.2.1,(r2.1.1,(([]:List (den Y45)),(x.1.2.2.2.1,(x.1.2.2.2.2.1,(x.1.2.2.2.2.2.1,()))))))))),()))),()))).bind fun z10=>
 match z10 with
 | .inl x11=>
  some ((x11.2.1.2.1,()),())
 | .inr z10_=>
  none
abbrev C_fl:Con:=⟨P_de,R_ah,F_fl,false⟩
abbrev G_fl:Env:=[(96,C_ac),(97,C_ak),(98,C_al)]
theorem g_fl:Qg Tryz.prog G_fl:=(Qa s_ac (Qa s_ak (Qa s_al Qd)))
abbrev c_fl_3:Cut:=⟨i_fl_3,o_fl_3,fun x=>Qc l_fl_3 lots x⟩
theorem k_fl_3:Qu Tryz.prog 37 (.loop (nav Tryz.f35 [1,1,0,1,0,0])) c_fl_3:=
  Qi (L:=[]) hT g_fl (fun _ _=>by kernel_rfl) okP _
theorem r_fl (x):QK T G_fl [(3,c_fl_3)] Tryz.f35 C_fl.ps C_fl.rs x=C_fl.F x:=by kernel_rfl
theorem s_fl:Qb Tryz.prog 35 C_fl:=fnC (L:=[(3,c_fl_3)]) hT g_fl Tryz.f35 (okS okP (okS okP (okS (okS okP (okB (okU k_fl_3))) okP))) r_fl
def F_fm (x:denP P_de):FO P_de R_ff:=
 (F_fk (x.1,())).bind fun r1=>
 if (r1.1.1 !=(0:Int)) then
  some (((r1.1.1,(([]:List (den Y30)),(([]:List (den Y122)),(([]:List (den Y38)),(([]:List (den Y38)),(([]:List (den YI)),(([]:List (den Y45)),((0:Int),((0:Int),((0:Int),())))))))))),()),())
 else
  if (leI (1000000:Int) x.1.2.2.2.2.2.1) then
   some ((((3:Int),(([]:List (den Y30)),(([]:List (den Y122)),(([]:List (den Y38)),(([]:List (den Y38)),(([]:List (den YI)),(([]:List (den Y45)),((0:Int),((0:Int),((0:Int),())))))))))),()),())
  else
   (F_fl (x.1,())).bind fun r2=>
   (F_bt (r2.1.1,())).bind fun r3=>
   some ((((0:Int),r3.2.1),()),())
abbrev C_fm:Con:=⟨P_de,R_ff,F_fm,false⟩
abbrev G_fm:Env:=[(34,C_fk),(35,C_fl),(36,C_bt)]
theorem g_fm:Qg Tryz.prog G_fm:=(Qa s_fk (Qa s_fl (Qa s_bt Qd)))
theorem s_fm:Qb Tryz.prog 9 C_fm:=fnC (L:=[]) hT g_fm Tryz.f9 okP fun _=>by kernel_rfl
abbrev P_fn:List PK:=[.val Y28,.val YI]
def F_fn (x:denP P_fn):FO P_fn R_c:=
 (F_ct (x.1,())).bind fun r1=>
 if (r1.1.1==(0:Int))=true then
  (F_cd (x.1,x.2.1,())).bind fun r2=>
  if (!r2.1.1) then
   some (((4:Int),()),())
  else
   some ((r1.1.1,()),())
 else
  some ((r1.1.1,()),())
abbrev C_fn:Con:=⟨P_fn,R_c,F_fn,false⟩
abbrev G_fn:Env:=[(44,C_cd),(47,C_ct)]
theorem g_fn:Qg Tryz.prog G_fn:=(Qa s_cd (Qa s_ct Qd))
theorem s_fn:Qb Tryz.prog 37 C_fn:=fnC (L:=[]) hT g_fn Tryz.f37 okP fun _=>by kernel_rfl
def strK0:List UInt8:=[0,1,2,2,3,3,3,3,4,4,4,4,4,4,4,4,5,5,5,5,5,5,5,5,5,5,5,5,5,5,5,5,6,6,6,6,6,6,6,6,6,6,6,6,6,6,6,6,6,6,6,6,6,6,6,6,6,6,6,6,6,6,6,6,7,7,7,7,7,7,7,7,7,7,7,7,7,7,7,7,7,7,7,7,7,7,7,7,7,7,7,7,7,7,7,7,7,7,7,7,7,7,7,7,7,7,7,7,7,7,7,7,7,7,7,7,7,7,7,7,7,7,7,7,7,7,7,7,8,8,8,8,8,8,8,8,8,8,8,8,8,8,8,8,8,8,8,8,8,8,8,8,8,8,8,8,8,8,8,8,8,8,8,8,8,8,8,8,8,8,8,8,8,8,8,8,8,8,8,8,8,8,8,8,8,8,8,8,8,8,8,8,8,8,8,8,8,8,8,8,8,8,8,8,8,8,8,8,8,8,8,8,8,8,8,8,8,8,8,8,8,8,8,8,8,8,8,8,8,8,8,8,8,8,8,8,8,8,8,8,8,8,8,8,8,8,8,8,8,8,8,8,8,8,8,8]
def F_fo (x:denP P_dv):FO P_dv R_c:=
 if (leI (4294967296:Int) x.1) then
  let v1:=((x.1).fdiv (2 ^ 32))
  if (leI (65536:Int) v1) then
   let v2:=((v1).fdiv (2 ^ 16))
   if (leI (256:Int) v2) then
    let v3:=((v2).fdiv (2 ^ 8))
    let v4:=(IntKind.u8.wrap v3)
    if 0≤v4 then
     ((strK0)[(v4).toNat]?).bind fun y5=>
     let v6:=(IntKind.i64.wrap ((y5).toNat:Int))
     let v7:=(IntKind.i64.wrap ((56:Int)+v6))
     some ((v7,()),())
    else none
   else
    let v8:=(IntKind.u8.wrap v2)
    if 0≤v8 then
     ((strK0)[(v8).toNat]?).bind fun y9=>
     let v10:=(IntKind.i64.wrap ((y9).toNat:Int))
     let v11:=(IntKind.i64.wrap ((48:Int)+v10))
     some ((v11,()),())
    else none
  else
   if (leI (256:Int) v1) then
    let v12:=((v1).fdiv (2 ^ 8))
    let v13:=(IntKind.u8.wrap v12)
    if 0≤v13 then
     ((strK0)[(v13).toNat]?).bind fun y14=>
     let v15:=(IntKind.i64.wrap ((y14).toNat:Int))
     let v16:=(IntKind.i64.wrap ((40:Int)+v15))
     some ((v16,()),())
    else none
   else
    let v17:=(IntKind.u8.wrap v1)
    if 0≤v17 then
     ((strK0)[(v17).toNat]?).bind fun y18=>
     let v19:=(IntKind.i64.wrap ((y18).toNat:Int))
     let v20:=(IntKind.i64.wrap ((32:Int)+v19))
     some ((v20,()),())
    else none
 else
  if (leI (65536:Int) x.1) then
   let v21:=((x.1).fdiv (2 ^ 16))
   if (leI (256:Int) v21) then
    let v22:=((v21).fdiv (2 ^ 8))
    let v23:=(IntKind.u8.wrap v22)
    if 0≤v23 then
     ((strK0)[(v23).toNat]?).bind fun y24=>
     let v25:=(IntKind.i64.wrap ((y24).toNat:Int))
     let v26:=(IntKind.i64.wrap ((24:Int)+v25))
     some ((v26,()),())
    else none
   else
    let v27:=(IntKind.u8.wrap v21)
    if 0≤v27 then
     ((strK0)[(v27).toNat]?).bind fun y28=>
     let v29:=(IntKind.i64.wrap ((y28).toNat:Int))
     let v30:=(IntKind.i64.wrap ((16:Int)+v29))
     some ((v30,()),())
    else none
  else
   if (leI (256:Int) x.1) then
    let v31:=((x.1).fdiv (2 ^ 8))
    let v32:=(IntKind.u8.wrap v31)
    if 0≤v32 then
     ((strK0)[(v32).toNat]?).bind fun y33=>
     let v34:=(IntKind.i64.wrap ((y33).toNat:Int))
     let v35:=(IntKind.i64.wrap ((8:Int)+v34))
     some ((v35,()),())
    else none
   else
    let v36:=(IntKind.u8.wrap x.1)
    if 0≤v36 then
     ((strK0)[(v36).toNat]?).bind fun y37=>
     let v38:=(IntKind.i64.wrap ((y37).toNat:Int))
     let v39:=(IntKind.i64.wrap ((0:Int)+v38))
     some ((v39,()),())
    else none
abbrev C_fo:Con:=⟨P_dv,R_c,F_fo,false⟩
theorem s_fo:Qb Tryz.prog 164 C_fo:=fnC (L:=[]) hT g_a Tryz.f164 okP fun _=>by kernel_rfl
def F_fp (x:denP P_dv):FO P_dv R_c:=
 (F_fo (x.1,())).bind fun r1=>
 some ((r1.1.1,()),())
abbrev C_fp:Con:=⟨P_dv,R_c,F_fp,false⟩
abbrev G_fp:Env:=[(164,C_fo)]
theorem g_fp:Qg Tryz.prog G_fp:=(Qa s_fo Qd)
theorem s_fp:Qb Tryz.prog 106 C_fp:=fnC (L:=[]) hT g_fp Tryz.f106 okP fun _=>by kernel_rfl
def F_cmp_isNaN_int64 (x:denP P_n):FO P_n R_a:=
 some (((x.1 !=x.1),()),())
abbrev C_cmp_isNaN_int64:Con:=⟨P_n,R_a,F_cmp_isNaN_int64,false⟩
theorem s_cmp_isNaN_int64:Qb Tryz.prog 214 C_cmp_isNaN_int64:=fnC (L:=[]) hT g_a Tryz.f214 okP fun _=>by kernel_rfl
def F_cmp_Less_int64 (x:denP P_ay):FO P_ay R_a:=
 (F_cmp_isNaN_int64 (x.1,())).bind fun r1=>
 if r1.1.1=true then
  (F_cmp_isNaN_int64 (x.2.1,())).bind fun r2=>
  if (!r2.1.1)=false then
   some (((ltI x.1 x.2.1),()),())
  else
   some ((true,()),())
 else
  some (((ltI x.1 x.2.1),()),())
abbrev C_cmp_Less_int64:Con:=⟨P_ay,R_a,F_cmp_Less_int64,false⟩
abbrev G_cmp_Less_int64:Env:=[(214,C_cmp_isNaN_int64)]
theorem g_cmp_Less_int64:Qg Tryz.prog G_cmp_Less_int64:=(Qa s_cmp_isNaN_int64 Qd)
theorem s_cmp_Less_int64:Qb Tryz.prog 160 C_cmp_Less_int64:=fnC (L:=[]) hT g_cmp_Less_int64 Tryz.f160 okP fun _=>by kernel_rfl
abbrev P_fq:List PK:=[.row 2 YI,.val YI,.val YI]
abbrev i_fq_4:Shp:={ slots:=[(0,.s (.ref 9000100)),(1,.s (.dat YI)),(2,.s (.dat YI)),(6,.s (.dat YI)),(7,.s (.dat YI))],boxes:=[],rows:=[(9000100,2,YI)] }
abbrev o_fq_4:List (Ex×Shp):=[(.exit 2,{ slots:=[(0,.s (.ref 9000100)),(1,.s (.dat YI)),(2,.s (.dat YI)),(6,.s (.dat YI))],boxes:=[],rows:=[(9000100,2,YI)] })]
def l_fq_4 (rec:i_fq_4.den→Option (denO o_fq_4)) (u:i_fq_4.den):Option (denO o_fq_4):=
 if (ltI u.1.2.1 u.1.2.2.2.2.1)=true then
  if 0≤u.1.2.2.2.2.1∧u.1.2.2.2.2.1< ((u.2.2.1.length:Nat):Int) then
   ((u.2.2.1)[(u.1.2.2.2.2.1).toNat]?).bind fun y18=>
   let v19:=(IntKind.i64.wrap (u.1.2.2.2.2.1-(1:Int)))
   if 0≤v19∧v19< ((u.2.2.1.length:Nat):Int) then
    ((u.2.2.1)[(v19).toNat]?).bind fun y20=>
    (F_cmp_Less_int64 (y18,y20,())).bind fun r21=>
    if r21.1.1 then
     let v22:=(IntKind.i64.wrap (u.1.2.2.2.2.1-(1:Int)))
     let v23:=(IntKind.i64.wrap (u.1.2.2.2.2.1-(1:Int)))
     if 0≤v23∧v23< ((u.2.2.1.length:Nat):Int) then
      ((u.2.2.1)[(v23).toNat]?).bind fun y24=>
      if 0≤u.1.2.2.2.2.1∧u.1.2.2.2.2.1< ((u.2.2.1.length:Nat):Int) then
       ((u.2.2.1)[(u.1.2.2.2.2.1).toNat]?).bind fun y25=>
       if 0≤u.1.2.2.2.2.1∧u.1.2.2.2.2.1< ((u.2.2.1.length:Nat):Int) then
        ((u.2.2.1)[(u.1.2.2.2.2.1).toNat]?).bind fun y26=>
        let v27:=(u.2.2.1.set (u.1.2.2.2.2.1).toNat y24)
        if 0≤v22∧v22< ((v27.length:Nat):Int) then
         ((v27)[(v22).toNat]?).bind fun y28=>
         let v29:=(v27.set (v22).toNat y25)
         let v30:=(IntKind.i64.wrap (u.1.2.2.2.2.1-(1:Int)))
         rec (((),(u.1.2.1,(u.1.2.2.1,(u.1.2.2.2.1,(v30,()))))),((),(v29,())))
        else none
       else none
      else none
     else none
    else
     some (.inl (((),(u.1.2.1,(u.1.2.2.1,(u.1.2.2.2.1,())))),((),(u.2.2.1,()))))
   else none
  else none
 else
  some (.inl (((),(u.1.2.1,(u.1.2.2.1,(u.1.2.2.2.1,())))),((),(u.2.2.1,()))))
def L_fq_4 (x:i_fq_4.den):Option (denO o_fq_4):=Qc l_fq_4 lots x
abbrev i_fq_1:Shp:={ slots:=[(0,.s (.ref 9000100)),(1,.s (.dat YI)),(2,.s (.dat YI)),(6,.s (.dat YI))],boxes:=[],rows:=[(9000100,2,YI)] }
abbrev o_fq_1:List (Ex×Shp):=[(.exit 0,{ slots:=[],boxes:=[],rows:=[(9000100,2,YI)] })]
def l_fq_1 (rec:i_fq_1.den→Option (denO o_fq_1)) (u:i_fq_1.den):Option (denO o_fq_1):=
 if (ltI u.1.2.2.2.1 u.1.2.2.1) then
  (L_fq_4 (((),(u.1.2.1,(u.1.2.2.1,(u.1.2.2.2.1,(u.1.2.2.2.1,()))))),((),(u.2.2.1,())))).bind fun z31=>
  match z31 with
  | .inl x32=>
   let v33:=(IntKind.i64.wrap (x32.1.2.2.2.1+(1:Int)))
   rec (((),(x32.1.2.1,(x32.1.2.2.1,(v33,())))),((),(x32.2.2.1,())))
  | .inr z31_=>
   none
 else
  some (.inl ((),((),(u.2.2.1,()))))
def L_fq_1 (x:i_fq_1.den):Option (denO o_fq_1):=Qc l_fq_1 lots x
def F_fq (x:denP P_fq):FO P_fq R_ap:=
 let v1:=(IntKind.i64.wrap (x.2.1+(1:Int)))
 (L_fq_1 (((),(x.2.1,(x.2.2.1,(v1,())))),((),(x.1,())))).bind fun z34=>
 match z34 with
 | .inl x35=>
  if (x.1.length==x35.2.2.1.length && true)=true then
   some ((),(x35.2.2.1,()))
  else none
 | .inr z34_=>
  none
abbrev C_fq:Con:=⟨P_fq,R_ap,F_fq,false⟩
abbrev G_fq:Env:=[(160,C_cmp_Less_int64)]
theorem g_fq:Qg Tryz.prog G_fq:=(Qa s_cmp_Less_int64 Qd)
abbrev c_fq_4:Cut:=⟨i_fq_4,o_fq_4,fun x=>Qc l_fq_4 lots x⟩
theorem k_fq_4:Qu Tryz.prog 49 (.loop (nav Tryz.f154 [1,0,0,1,0,0,1,0,0])) c_fq_4:=
  Qi (L:=[]) hT g_fq (fun _ _=>by kernel_rfl) okP _
abbrev c_fq_1:Cut:=⟨i_fq_1,o_fq_1,fun x=>Qc l_fq_1 lots x⟩
theorem t_fq_1 (rec x):run T G_fq [(4,c_fq_4)] (nav Tryz.f154 [1,0,0]) (mk 49 i_fq_1 x) (Qfq i_fq_1 o_fq_1 rec)=l_fq_1 rec x:=by kernel_rfl
theorem k_fq_1:Qu Tryz.prog 49 (.loop (nav Tryz.f154 [1,0,0])) c_fq_1:=
  Qi (L:=[(4,c_fq_4)]) hT g_fq t_fq_1 (okS okP (okS (okB (okS okP (okB (okU k_fq_4)))) okP)) _
theorem r_fq (x):QK T G_fq [(4,c_fq_4),(1,c_fq_1)] Tryz.f154 C_fq.ps C_fq.rs x=C_fq.F x:=by kernel_rfl
theorem s_fq:Qb Tryz.prog 154 C_fq:=fnC (L:=[(4,c_fq_4),(1,c_fq_1)]) hT g_fq Tryz.f154 (okS okP (okB (okU k_fq_1))) r_fq
abbrev P_fr:List PK:=[.row 2 YI,.val YI,.val YI,.val YI]
abbrev i_fr_2:Shp:={ slots:=[(0,.s (.ref 9000100)),(1,.s (.dat YI)),(2,.s (.dat YI)),(3,.s (.dat YI)),(8,.s (.dat .bool)),(9,.s (.dat .bool))],boxes:=[],rows:=[(9000100,2,YI)] }
abbrev o_fr_2:List (Ex×Shp):=[(.ret,{ slots:=[],boxes:=[],rows:=[(9000100,2,YI)] })]
def l_fr_2 (rec:i_fr_2.den→Option (denO o_fr_2)) (u:i_fr_2.den):Option (denO o_fr_2):=
 let v2:=(IntKind.i64.wrap (u.1.2.2.1-u.1.2.1))
 if (leI v2 (12:Int)) then
  (F_fq (u.2.2.1,u.1.2.1,u.1.2.2.1,())).bind fun r3=>
  if ((u.2.2.1.length==r3.2.1.length && true) && true)=true then
   some (.inl ((),((),(r3.2.1,()))))
  else none
 else
  if (u.1.2.2.2.1==(0:Int)) then none else
  if (!u.1.2.2.2.2.1) then
   none
  else none
def L_fr_2 (x:i_fr_2.den):Option (denO o_fr_2):=Qc l_fr_2 lots x
def F_fr (x:denP P_fr):FO P_fr R_ap:=
 (L_fr_2 (((),(x.2.1,(x.2.2.1,(x.2.2.2.1,(true,(true,())))))),((),(x.1,())))).bind fun z4=>
 match z4 with
 | .inl x5=>
  if (x.1.length==x5.2.2.1.length && true)=true then
   some ((),(x5.2.2.1,()))
  else none
 | .inr z4_=>
  none
abbrev C_fr:Con:=⟨P_fr,R_ap,F_fr,false⟩
abbrev G_fr:Env:=[(154,C_fq)]
theorem g_fr:Qg Tryz.prog G_fr:=(Qa s_fq Qd)
abbrev c_fr_2:Cut:=⟨i_fr_2,o_fr_2,fun x=>Qc l_fr_2 lots x⟩
theorem k_fr_2:Qu Tryz.prog 134 (.loop (nav Tryz.f105 [1,1,0,0])) c_fr_2:=
  Qi (L:=[]) hT g_fr (fun _ _=>by kernel_rfl) okP _
theorem r_fr (x):QK T G_fr [(2,c_fr_2)] Tryz.f105 C_fr.ps C_fr.rs x=C_fr.F x:=by kernel_rfl
theorem s_fr:Qb Tryz.prog 105 C_fr:=fnC (L:=[(2,c_fr_2)]) hT g_fr Tryz.f105 (okS okP (okS okP (okB (okU k_fr_2)))) r_fr
abbrev P_fs:List PK:=[.row 2 YI]
def F_fs (x:denP P_fs):FO P_fs R_ap:=
 let v1:=((x.1.length:Nat):Int)
 let v2:=(IntKind.u64.wrap v1)
 (F_fp (v2,())).bind fun r3=>
 (F_fr (x.1,(0:Int),v1,r3.1.1,())).bind fun r4=>
 if ((x.1.length==r4.2.1.length && true) && true)=true then
  if (x.1.length==r4.2.1.length && true)=true then
   some ((),(r4.2.1,()))
  else none
 else none
abbrev C_fs:Con:=⟨P_fs,R_ap,F_fs,false⟩
abbrev G_fs:Env:=[(105,C_fr),(106,C_fp)]
theorem g_fs:Qg Tryz.prog G_fs:=(Qa s_fr (Qa s_fp Qd))
theorem s_fs:Qb Tryz.prog 39 C_fs:=fnC (L:=[]) hT g_fs Tryz.f39 okP fun _=>by kernel_rfl
abbrev i_ft_6:Shp:={ slots:=[(4,.s (.ptr 4 0)),(6,.s (.own 2 YI)),(18,.s (.own 88 Y38)),(19,.s (.dat YI)),(20,.s (.dat YI))],boxes:=[(4,[.dat YI,.own 2 YI])],rows:=[] }
abbrev o_ft_6:List (Ex×Shp):=[(.exit 0,{ slots:=[(4,.s (.ptr 4 0)),(6,.s (.own 2 YI))],boxes:=[(4,[.dat YI,.own 2 YI])],rows:=[] })]
def l_ft_6 (rec:i_ft_6.den→Option (denO o_ft_6)) (u:i_ft_6.den):Option (denO o_ft_6):=
 if (ltI u.1.2.2.2.2.1 u.1.2.2.2.1) then
  if 0≤u.1.2.2.2.2.1∧u.1.2.2.2.2.1< ((u.1.2.2.1.length:Nat):Int) then
   ((u.1.2.2.1)[(u.1.2.2.2.2.1).toNat]?).bind fun y5=>
   let v6:=(iand .i64 y5.2.1 (2:Int))
   if (v6 !=(0:Int)) then
    if (u.1.2.1.length+[y5.1].length)*8≤140737488355328 then
     let v7:=(u.1.2.1++[y5.1])
     let v8:=(IntKind.i64.wrap (u.1.2.2.2.2.1+(1:Int)))
     rec (((),(v7,(u.1.2.2.1,(u.1.2.2.2.1,(v8,()))))),((u.2.1.1,()),()))
    else none
   else
    let v9:=(IntKind.i64.wrap (u.1.2.2.2.2.1+(1:Int)))
    rec (((),(u.1.2.1,(u.1.2.2.1,(u.1.2.2.2.1,(v9,()))))),((u.2.1.1,()),()))
  else none
 else
  some (.inl (((),(u.1.2.1,())),((u.2.1.1,()),())))
def L_ft_6 (x:i_ft_6.den):Option (denO o_ft_6):=Qc l_ft_6 lots x
def F_ft (x:denP P_fn):FO P_fn R_ab:=
 (F_fn (x.1,x.2.1,())).bind fun r1=>
 if (r1.1.1 !=(0:Int)) then
  some (((r1.1.1,(([]:List (den YI)),())),()),())
 else
  (F_dt (x.1,x.2.1,())).bind fun r2=>
  let v3:=((r2.1.1.length:Nat):Int)
  (L_ft_6 (((),(([]:List (den YI)),(r2.1.1,(v3,((0:Int),()))))),((((0:Int),(([]:List (den YI)),())),()),()))).bind fun z10=>
  match z10 with
  | .inl x11=>
   (F_fs (x11.1.2.1,())).bind fun r12=>
   if ((x11.1.2.1.length==r12.2.1.length && true) && true)=true then
    some ((((0:Int),(r12.2.1,())),()),())
   else none
  | .inr z10_=>
   none
abbrev C_ft:Con:=⟨P_fn,R_ab,F_ft,false⟩
abbrev G_ft:Env:=[(37,C_fn),(38,C_dt),(39,C_fs)]
theorem g_ft:Qg Tryz.prog G_ft:=(Qa s_fn (Qa s_dt (Qa s_fs Qd)))
abbrev c_ft_6:Cut:=⟨i_ft_6,o_ft_6,fun x=>Qc l_ft_6 lots x⟩
theorem k_ft_6:Qu Tryz.prog 38 (.loop (nav Tryz.f10 [1,1,1,0,1,0,0])) c_ft_6:=
  Qi (L:=[]) hT g_ft (fun _ _=>by kernel_rfl) okP _
theorem r_ft (x):QK T G_ft [(6,c_ft_6)] Tryz.f10 C_ft.ps C_ft.rs x=C_ft.F x:=by kernel_rfl
theorem s_ft:Qb Tryz.prog 10 C_ft:=fnC (L:=[(6,c_ft_6)]) hT g_ft Tryz.f10 (okS okP (okS okP (okS okP (okS (okS okP (okB (okU k_ft_6))) okP)))) r_ft
abbrev i_fu_2:Shp:={ slots:=[(5,.s (.dat Y30)),(6,.s (.dat YI)),(7,.s (.dat YI))],boxes:=[],rows:=[] }
def l_fu_2 (rec:i_fu_2.den→Option (denO o_l_4)) (u:i_fu_2.den):Option (denO o_l_4):=
 if (ltI u.1.2.2.1 u.1.2.1) then
  if 0≤u.1.2.2.1 then
   ((u.1.1)[(u.1.2.2.1).toNat]?).bind fun y3=>
   if (y3 !=(0:Int)) then
    some (.inr (.inl ((y3,()),((),()))))
   else
    let v4:=(IntKind.i64.wrap (u.1.2.2.1+(1:Int)))
    rec ((u.1.1,(u.1.2.1,(v4,()))),((),()))
  else none
 else
  some (.inl ((),((),())))
def L_fu_2 (x:i_fu_2.den):Option (denO o_l_4):=Qc l_fu_2 lots x
def F_fu (x:denP P_ae):FO P_ae R_c:=
 let v1:=((x.1.length:Nat):Int)
 (L_fu_2 ((x.1,(v1,((0:Int),()))),((),()))).bind fun z5=>
 match z5 with
 | .inl x6=>
  some (((0:Int),()),())
 | .inr z5_=>
  match z5_ with
  | .inl x7=>
   some ((x7.1.1,()),())
  | .inr z5__=>
   none
abbrev C_fu:Con:=⟨P_ae,R_c,F_fu,false⟩
abbrev c_fu_2:Cut:=⟨i_fu_2,o_l_4,fun x=>Qc l_fu_2 lots x⟩
theorem k_fu_2:Qu Tryz.prog 15 (.loop (nav Tryz.f40 [1,0,1,0,0])) c_fu_2:=
  Qi (L:=[]) hT g_a (fun _ _=>by kernel_rfl) okP _
theorem r_fu (x):QK T G_a [(2,c_fu_2)] Tryz.f40 C_fu.ps C_fu.rs x=C_fu.F x:=by kernel_rfl
theorem s_fu:Qb Tryz.prog 40 C_fu:=fnC (L:=[(2,c_fu_2)]) hT g_a Tryz.f40 (okS okP (okS (okS okP (okB (okU k_fu_2))) okP)) r_fu
abbrev P_fv:List PK:=[.val Y30,.val Y30]
abbrev i_fv_4:Shp:={ slots:=[(0,.s (.dat Y30)),(1,.s (.dat Y30)),(12,.s (.dat YI)),(13,.s (.dat YI))],boxes:=[],rows:=[] }
def l_fv_4 (rec:i_fv_4.den→Option (denO o_f_2)) (u:i_fv_4.den):Option (denO o_f_2):=
 if (ltI u.1.2.2.2.1 u.1.2.2.1) then
  if 0≤u.1.2.2.2.1 then
   ((u.1.1)[(u.1.2.2.2.1).toNat]?).bind fun y6=>
   if 0≤u.1.2.2.2.1 then
    ((u.1.2.1)[(u.1.2.2.2.1).toNat]?).bind fun y7=>
    if (y6 !=y7) then
     some (.inr (.inl ((false,()),((),()))))
    else
     let v8:=(IntKind.i64.wrap (u.1.2.2.2.1+(1:Int)))
     rec ((u.1.1,(u.1.2.1,(u.1.2.2.1,(v8,())))),((),()))
   else none
  else none
 else
  some (.inl ((),((),())))
def L_fv_4 (x:i_fv_4.den):Option (denO o_f_2):=Qc l_fv_4 lots x
def F_fv (x:denP P_fv):FO P_fv R_a:=
 let v1:=((x.1.length:Nat):Int)
 let v2:=((x.2.1.length:Nat):Int)
 if (v1 !=v2) then
  some ((false,()),())
 else
  let v3:=((x.1.length:Nat):Int)
  (L_fv_4 ((x.1,(x.2.1,(v3,((0:Int),())))),((),()))).bind fun z9=>
  match z9 with
  | .inl x10=>
   some ((true,()),())
  | .inr z9_=>
   match z9_ with
   | .inl x11=>
    some ((x11.1.1,()),())
   | .inr z9__=>
    none
abbrev C_fv:Con:=⟨P_fv,R_a,F_fv,false⟩
abbrev c_fv_4:Cut:=⟨i_fv_4,o_f_2,fun x=>Qc l_fv_4 lots x⟩
theorem k_fv_4:Qu Tryz.prog 26 (.loop (nav Tryz.f42 [1,1,0,1,0,0])) c_fv_4:=
  Qi (L:=[]) hT g_a (fun _ _=>by kernel_rfl) okP _
theorem r_fv (x):QK T G_a [(4,c_fv_4)] Tryz.f42 C_fv.ps C_fv.rs x=C_fv.F x:=by kernel_rfl
theorem s_fv:Qb Tryz.prog 42 C_fv:=fnC (L:=[(4,c_fv_4)]) hT g_a Tryz.f42 (okS okP (okS okP (okS (okS okP (okB (okU k_fv_4))) okP))) r_fv
abbrev i_fw_8:Shp:={ slots:=[(0,.s (.dat Y30)),(1,.s (.dat Y30)),(4,.s (.ptr 4 0)),(6,.s (.own 2 YI)),(27,.s (.dat YI)),(28,.s (.dat YI))],boxes:=[(4,[.dat YI,.own 2 YI])],rows:=[] }
def l_fw_8 (rec:i_fw_8.den→Option (denO o_ft_6)) (u:i_fw_8.den):Option (denO o_ft_6):=
 if (ltI u.1.2.2.2.2.2.1 u.1.2.2.2.2.1) then
  (F_dz (u.1.1,u.1.2.2.2.2.2.1,())).bind fun r11=>
  (F_dz (u.1.2.1,u.1.2.2.2.2.2.1,())).bind fun r12=>
  (F_fv (r11.1.1,r12.1.1,())).bind fun r13=>
  if (!r13.1.1) then
   if (u.1.2.2.2.1.length+[u.1.2.2.2.2.2.1].length)*8≤140737488355328 then
    let v14:=(u.1.2.2.2.1++[u.1.2.2.2.2.2.1])
    let v15:=(IntKind.i64.wrap (u.1.2.2.2.2.2.1+(1:Int)))
    rec ((u.1.1,(u.1.2.1,((),(v14,(u.1.2.2.2.2.1,(v15,())))))),((u.2.1.1,()),()))
   else none
  else
   let v16:=(IntKind.i64.wrap (u.1.2.2.2.2.2.1+(1:Int)))
   rec ((u.1.1,(u.1.2.1,((),(u.1.2.2.2.1,(u.1.2.2.2.2.1,(v16,())))))),((u.2.1.1,()),()))
 else
  some (.inl (((),(u.1.2.2.2.1,())),((u.2.1.1,()),())))
def L_fw_8 (x:i_fw_8.den):Option (denO o_ft_6):=Qc l_fw_8 lots x
def F_fw (x:denP P_fv):FO P_fv R_ab:=
 (F_cz (x.1,())).bind fun r1=>
 (F_cz (x.2.1,())).bind fun r2=>
 (F_fu ([r1.1.1,r2.1.1],())).bind fun r3=>
 if (r3.1.1 !=(0:Int)) then
  some (((r3.1.1,(([]:List (den YI)),())),()),())
 else
  let v4:=((x.1.length:Nat):Int)
  let v5:=((x.2.1.length:Nat):Int)
  if (v4 !=v5) then
   some ((((1:Int),(([]:List (den YI)),())),()),())
  else
   let v6:=((x.1.length:Nat):Int)
   let v7:=(IntKind.i64.wrap ((v6).tdiv (8:Int)))
   (L_fw_8 ((x.1,(x.2.1,((),(([]:List (den YI)),(v7,((0:Int),())))))),((((0:Int),(([]:List (den YI)),())),()),()))).bind fun z17=>
   match z17 with
   | .inl x18=>
    some ((((0:Int),(x18.1.2.1,())),()),())
   | .inr z17_=>
    none
abbrev C_fw:Con:=⟨P_fv,R_ab,F_fw,false⟩
abbrev G_fw:Env:=[(40,C_fu),(41,C_cz),(42,C_fv),(43,C_dz)]
theorem g_fw:Qg Tryz.prog G_fw:=(Qa s_fu (Qa s_cz (Qa s_fv (Qa s_dz Qd))))
abbrev c_fw_8:Cut:=⟨i_fw_8,o_ft_6,fun x=>Qc l_fw_8 lots x⟩
theorem k_fw_8:Qu Tryz.prog 46 (.loop (nav Tryz.f11 [1,1,1,1,0,1,0,0])) c_fw_8:=
  Qi (L:=[]) hT g_fw (fun _ _=>by kernel_rfl) okP _
theorem r_fw (x):QK T G_fw [(8,c_fw_8)] Tryz.f11 C_fw.ps C_fw.rs x=C_fw.F x:=by kernel_rfl
theorem s_fw:Qb Tryz.prog 11 C_fw:=fnC (L:=[(8,c_fw_8)]) hT g_fw Tryz.f11 (okS okP (okS okP (okS okP (okS okP (okS (okS okP (okB (okU k_fw_8))) okP))))) r_fw
def l_fx_2 (rec:i_f_2.den→Option (denO o_f_2)) (u:i_f_2.den):Option (denO o_f_2):=
 let v2:=((u.1.1.length:Nat):Int)
 if (ltI u.1.2.2.1 v2) then
  if 0≤u.1.2.2.1 then
   ((u.1.1)[(u.1.2.2.1).toNat]?).bind fun y3=>
   if (y3==u.1.2.1) then
    some (.inr (.inl ((true,()),((),()))))
   else
    let v4:=(IntKind.i64.wrap (u.1.2.2.1+(1:Int)))
    rec ((u.1.1,(u.1.2.1,(v4,()))),((),()))
  else none
 else
  some (.inl ((),((),())))
def L_fx_2 (x:i_f_2.den):Option (denO o_f_2):=Qc l_fx_2 lots x
def F_fx (x:denP P_f):FO P_f R_a:=
 (L_fx_2 ((x.1,(x.2.1,((0:Int),()))),((),()))).bind fun z5=>
 match z5 with
 | .inl x6=>
  some ((false,()),())
 | .inr z5_=>
  match z5_ with
  | .inl x7=>
   some ((x7.1.1,()),())
  | .inr z5__=>
   none
abbrev C_fx:Con:=⟨P_f,R_a,F_fx,false⟩
abbrev c_fx_2:Cut:=⟨i_f_2,o_f_2,fun x=>Qc l_fx_2 lots x⟩
theorem k_fx_2:Qu Tryz.prog 18 (.loop (nav Tryz.f12 [1,0,1,0,0])) c_fx_2:=
  Qi (L:=[]) hT g_a (fun _ _=>by kernel_rfl) okP _
theorem r_fx (x):QK T G_a [(2,c_fx_2)] Tryz.f12 C_fx.ps C_fx.rs x=C_fx.F x:=by kernel_rfl
theorem s_fx:Qb Tryz.prog 12 C_fx:=fnC (L:=[(2,c_fx_2)]) hT g_a Tryz.f12 (okS okP (okS (okS okP (okB (okU k_fx_2))) okP)) r_fx
abbrev i_fy_3:Shp:={ slots:=[(0,.s (.dat Y30)),(5,.s (.own 2 YI)),(9,.s (.dat Y30)),(10,.s (.dat YI)),(11,.s (.dat YI))],boxes:=[],rows:=[] }
def l_fy_3 (rec:i_fy_3.den→Option (denO o_aa_3)) (u:i_fy_3.den):Option (denO o_aa_3):=
 if (ltI u.1.2.2.2.2.1 u.1.2.2.2.1) then
  if 0≤u.1.2.2.2.2.1 then
   ((u.1.2.2.1)[(u.1.2.2.2.2.1).toNat]?).bind fun y4=>
   (F_dz (u.1.1,y4,())).bind fun r5=>
   if (u.1.2.1.length+r5.1.1.length)*8≤140737488355328 then
    let v6:=(u.1.2.1++r5.1.1)
    let v7:=(IntKind.i64.wrap (u.1.2.2.2.2.1+(1:Int)))
    rec ((u.1.1,(v6,(u.1.2.2.1,(u.1.2.2.2.1,(v7,()))))),((),()))
   else none
  else none
 else
  some (.inl ((u.1.2.1,()),((),())))
def L_fy_3 (x:i_fy_3.den):Option (denO o_aa_3):=Qc l_fy_3 lots x
def F_fy (x:denP P_fv):FO P_fv R_u:=
 let v1:=((x.2.1.length:Nat):Int)
 (L_fy_3 ((x.1,(([]:List (den YI)),(x.2.1,(v1,((0:Int),()))))),((),()))).bind fun z8=>
 match z8 with
 | .inl x9=>
  some ((x9.1.1,()),())
 | .inr z8_=>
  none
abbrev C_fy:Con:=⟨P_fv,R_u,F_fy,false⟩
abbrev G_fy:Env:=[(43,C_dz)]
theorem g_fy:Qg Tryz.prog G_fy:=(Qa s_dz Qd)
abbrev c_fy_3:Cut:=⟨i_fy_3,o_aa_3,fun x=>Qc l_fy_3 lots x⟩
theorem k_fy_3:Qu Tryz.prog 22 (.loop (nav Tryz.f108 [1,1,0,1,0,0])) c_fy_3:=
  Qi (L:=[]) hT g_fy (fun _ _=>by kernel_rfl) okP _
theorem r_fy (x):QK T G_fy [(3,c_fy_3)] Tryz.f108 C_fy.ps C_fy.rs x=C_fy.F x:=by kernel_rfl
theorem s_fy:Qb Tryz.prog 108 C_fy:=fnC (L:=[(3,c_fy_3)]) hT g_fy Tryz.f108 (okS okP (okS okP (okS (okS okP (okB (okU k_fy_3))) okP))) r_fy
abbrev P_fz:List PK:=[.ptr Y32,.val YI]
abbrev R_fz:List VK:=[.g [.own 2 YI,.dat YI,.own 2 YI,.dat .bool,.dat .bool,.dat .bool,.dat YI,.own 2 YI,.own 2 YI,.own 2 YI,.own 2 YI]]
abbrev i_fz_3:Shp:={ slots:=[(0,.s (.pd Y32)),(1,.s (.dat YI)),(4,.s (.ptr 4 0)),(5,.s (.ptr 5 0)),(34,.s (.dat Y25)),(35,.s (.dat YI)),(36,.s (.dat YI))],boxes:=[(4,[.own 2 YI,.dat YI,.own 2 YI,.dat .bool,.dat .bool,.dat .bool,.dat YI,.own 2 YI,.own 2 YI,.own 2 YI,.own 2 YI]),(5,[.own 2 YI,.dat YI,.own 2 YI,.dat .bool,.dat .bool,.dat .bool,.dat YI,.own 2 YI,.own 2 YI,.own 2 YI,.own 2 YI])],rows:=[] }
abbrev o_fz_3:List (Ex×Shp):=[(.exit 0,{ slots:=[(4,.s (.ptr 4 0)),(5,.s (.ptr 5 0))],boxes:=[(4,[.own 2 YI,.dat YI,.own 2 YI,.dat .bool,.dat .bool,.dat .bool,.dat YI,.own 2 YI,.own 2 YI,.own 2 YI,.own 2 YI]),(5,[.own 2 YI,.dat YI,.own 2 YI,.dat .bool,.dat .bool,.dat .bool,.dat YI,.own 2 YI,.own 2 YI,.own 2 YI,.own 2 YI])],rows:=[] })]
def l_fz_3 (rec:i_fz_3.den→Option (denO o_fz_3)) (u:i_fz_3.den):Option (denO o_fz_3):=
 if (ltI u.1.2.2.2.2.2.2.1 u.1.2.2.2.2.2.1) then
  if 0≤u.1.2.2.2.2.2.2.1 then
   ((u.1.2.2.2.2.1)[(u.1.2.2.2.2.2.2.1).toNat]?).bind fun y8=>
   if (y8.1==u.1.2.1) then
    (F_dz (u.1.1.2.1,y8.2.2.1,())).bind fun r9=>
    if (u.2.1.2.1.2.2.2.2.2.2.2.2.2.2.1.length+r9.1.1.length)*8≤140737488355328 then
     let v10:=(u.2.1.2.1.2.2.2.2.2.2.2.2.2.2.1++r9.1.1)
     let v11:=(IntKind.i64.wrap (u.1.2.2.2.2.2.2.1+(1:Int)))
     rec ((u.1.1,(u.1.2.1,((),((),(u.1.2.2.2.2.1,(u.1.2.2.2.2.2.1,(v11,()))))))),((u.2.1.1,((u.2.1.2.1.1,(u.2.1.2.1.2.1,(u.2.1.2.1.2.2.1,(u.2.1.2.1.2.2.2.1,(u.2.1.2.1.2.2.2.2.1,(u.2.1.2.1.2.2.2.2.2.1,(u.2.1.2.1.2.2.2.2.2.2.1,(u.2.1.2.1.2.2.2.2.2.2.2.1,(u.2.1.2.1.2.2.2.2.2.2.2.2.1,(u.2.1.2.1.2.2.2.2.2.2.2.2.2.1,(v10,()))))))))))),())),()))
    else none
   else
    let v12:=(IntKind.i64.wrap (u.1.2.2.2.2.2.2.1+(1:Int)))
    rec ((u.1.1,(u.1.2.1,((),((),(u.1.2.2.2.2.1,(u.1.2.2.2.2.2.1,(v12,()))))))),((u.2.1.1,(u.2.1.2.1,())),()))
  else none
 else
  some (.inl (((),((),())),((u.2.1.1,(u.2.1.2.1,())),())))
def L_fz_3 (x:i_fz_3.den):Option (denO o_fz_3):=Qc l_fz_3 lots x
def F_fz (x:denP P_fz):FO P_fz R_fz:=
 if 0≤x.2.1 then
  ((x.1.2.2.1)[(x.2.1).toNat]?).bind fun y1=>
  (F_dm (y1,())).bind fun r2=>
  if 0≤x.2.1 then
   ((x.1.1.1)[(x.2.1).toNat]?).bind fun y3=>
   (F_fy (x.1.2.1,y3,())).bind fun r4=>
   let v5:=((x.1.1.2.1.length:Nat):Int)
   (L_fz_3 ((x.1,(x.2.1,((),((),(x.1.1.2.1,(v5,((0:Int),()))))))),(((([]:List (den YI)),((0:Int),(([]:List (den YI)),(false,(false,(false,((0:Int),(([]:List (den YI)),(([]:List (den YI)),(([]:List (den YI)),(([]:List (den YI)),()))))))))))),((r2.1.1.1,(r2.1.1.2.1,(r2.1.1.2.2.1,(r2.1.1.2.2.2.1,(r2.1.1.2.2.2.2.1,(r2.1.1.2.2.2.2.2.1,(r2.1.1.2.2.2.2.2.2.1,(r2.1.1.2.2.2.2.2.2.2.1,(r2.1.1.2.2.2.2.2.2.2.2.1,(r4.1.1,(([]:List (den YI)),()))))))))))),())),()))).bind fun z13=>
   match z13 with
   | .inl x14=>
    some ((x14.2.1.2.1,()),())
   | .inr z13_=>
    none
  else none
 else none
abbrev C_fz:Con:=⟨P_fz,R_fz,F_fz,false⟩
abbrev G_fz:Env:=[(43,C_dz),(63,C_dm),(108,C_fy)]
theorem g_fz:Qg Tryz.prog G_fz:=(Qa s_dz (Qa s_dm (Qa s_fy Qd)))
abbrev c_fz_3:Cut:=⟨i_fz_3,o_fz_3,fun x=>Qc l_fz_3 lots x⟩
theorem k_fz_3:Qu Tryz.prog 57 (.loop (nav Tryz.f45 [1,1,0,1,0,0])) c_fz_3:=
  Qi (L:=[]) hT g_fz (fun _ _=>by kernel_rfl) okP _
theorem r_fz (x):QK T G_fz [(3,c_fz_3)] Tryz.f45 C_fz.ps C_fz.rs x=C_fz.F x:=by kernel_rfl
theorem s_fz:Qb Tryz.prog 45 C_fz:=fnC (L:=[(3,c_fz_3)]) hT g_fz Tryz.f45 (okS okP (okS okP (okS (okS okP (okB (okU k_fz_3))) okP))) r_fz
abbrev P_ga:List PK:=[.val Y32,.val YI]
abbrev R_ga:List VK:=[.g [.dat YI,.own 2 YI,.dat YI,.own 2 YI,.dat .bool,.dat .bool,.dat .bool,.dat YI,.own 2 YI,.own 2 YI,.own 2 YI,.own 2 YI]]
def F_ga (x:denP P_ga):FO P_ga R_ga:=
 (F_de (x.1,())).bind fun r1=>
 if (r1.1.1 !=(0:Int)) then
  some (((r1.1.1,(([]:List (den YI)),((0:Int),(([]:List (den YI)),(false,(false,(false,((0:Int),(([]:List (den YI)),(([]:List (den YI)),(([]:List (den YI)),(([]:List (den YI)),())))))))))))),()),())
 else
  (F_cd (x.1.1,x.2.1,())).bind fun r2=>
  if (!r2.1.1) then
   some ((((4:Int),(([]:List (den YI)),((0:Int),(([]:List (den YI)),(false,(false,(false,((0:Int),(([]:List (den YI)),(([]:List (den YI)),(([]:List (den YI)),(([]:List (den YI)),())))))))))))),()),())
  else
   (F_fz (x.1,x.2.1,())).bind fun r3=>
   some ((((0:Int),r3.1.1),()),())
abbrev C_ga:Con:=⟨P_ga,R_ga,F_ga,false⟩
abbrev G_ga:Env:=[(15,C_de),(44,C_cd),(45,C_fz)]
theorem g_ga:Qg Tryz.prog G_ga:=(Qa s_de (Qa s_cd (Qa s_fz Qd)))
theorem s_ga:Qb Tryz.prog 13 C_ga:=fnC (L:=[]) hT g_ga Tryz.f13 okP fun _=>by kernel_rfl
abbrev P_gb:List PK:=[.val Y45,.val Y45]
def F_gb (x:denP P_gb):FO P_gb R_a:=
 (F_fv (x.1.1,x.2.1.1,())).bind fun r1=>
 if r1.1.1=true then
  if (x.1.2.1==x.2.1.2.1)=true then
   (F_fv (x.1.2.2.1,x.2.1.2.2.1,())).bind fun r2=>
   if r2.1.1=true then
    if (x.1.2.2.2.1==x.2.1.2.2.2.1)=true then
     if (x.1.2.2.2.2.1==x.2.1.2.2.2.2.1)=true then
      if (x.1.2.2.2.2.2.1==x.2.1.2.2.2.2.2.1)=true then
       if (x.1.2.2.2.2.2.2.1==x.2.1.2.2.2.2.2.2.1)=true then
        (F_fv (x.1.2.2.2.2.2.2.2.1,x.2.1.2.2.2.2.2.2.2.1,())).bind fun r3=>
        if r3.1.1=true then
         (F_fv (x.1.2.2.2.2.2.2.2.2.1,x.2.1.2.2.2.2.2.2.2.2.1,())).bind fun r4=>
         some ((r4.1.1,()),())
        else
         some ((false,()),())
       else
        some ((false,()),())
      else
       some ((false,()),())
     else
      some ((false,()),())
    else
     some ((false,()),())
   else
    some ((false,()),())
  else
   some ((false,()),())
 else
  some ((false,()),())
abbrev C_gb:Con:=⟨P_gb,R_a,F_gb,false⟩
abbrev G_gb:Env:=[(42,C_fv)]
theorem g_gb:Qg Tryz.prog G_gb:=(Qa s_fv Qd)
theorem s_gb:Qb Tryz.prog 46 C_gb:=fnC (L:=[]) hT g_gb Tryz.f46 okP fun _=>by kernel_rfl
abbrev P_gc:List PK:=[.val Y47,.val Y47]
def F_gc (x:denP P_gc):FO P_gc R_a:=
 (F_gb (x.1.1,x.2.1.1,())).bind fun r1=>
 if r1.1.1=true then
  (F_fv (x.1.2.1,x.2.1.2.1,())).bind fun r2=>
  if r2.1.1=true then
   (F_fv (x.1.2.2.1,x.2.1.2.2.1,())).bind fun r3=>
   some ((r3.1.1,()),())
  else
   some ((false,()),())
 else
  some ((false,()),())
abbrev C_gc:Con:=⟨P_gc,R_a,F_gc,false⟩
abbrev G_gc:Env:=[(42,C_fv),(46,C_gb)]
theorem g_gc:Qg Tryz.prog G_gc:=(Qa s_fv (Qa s_gb Qd))
theorem s_gc:Qb Tryz.prog 14 C_gc:=fnC (L:=[]) hT g_gc Tryz.f14 okP fun _=>by kernel_rfl
abbrev i_gd_26:Shp:={ slots:=[(3,.s (.ptr 3 0)),(4,.s (.ptr 4 0)),(5,.s (.dat YI)),(9,.s (.dat YI)),(10,.s (.ptr 10 0)),(11,.s (.ptr 11 0)),(12,.s (.dat .bool)),(13,.s (.dat YI)),(100,.s (.ptr 10 0)),(101,.s (.ptr 10 5)),(102,.s (.dat .bool)),(103,.s (.dat .bool))],boxes:=[(3,[.dat Y24,.dat Y25,.dat Y26,.dat Y26,.dat Y30,.dat Y31,.dat YI,.dat YI,.dat YI]),(4,[.dat YI,.dat Y24,.dat Y25,.dat Y26,.dat Y26,.own 2 YI,.own 46 Y45,.dat YI,.dat YI,.dat YI]),(10,[.own 2 YI,.dat YI,.own 2 YI,.dat .bool,.dat .bool,.dat .bool,.dat YI,.own 2 YI,.own 2 YI,.own 2 YI,.own 2 YI]),(11,[.own 2 YI,.dat YI,.own 2 YI,.dat .bool,.dat .bool,.dat .bool,.dat YI,.own 2 YI,.own 2 YI,.own 2 YI,.own 2 YI])],rows:=[] }
abbrev o_gd_26:List (Ex×Shp):=[(.exit 4,{ slots:=[(3,.s (.ptr 3 0)),(4,.s (.ptr 4 0)),(5,.s (.dat YI)),(9,.s (.dat YI)),(10,.s (.ptr 10 0)),(11,.s (.ptr 11 0)),(12,.s (.dat .bool)),(100,.s (.ptr 10 0)),(101,.s (.ptr 10 5)),(102,.s (.dat .bool)),(103,.s (.dat .bool))],boxes:=[(3,[.dat Y24,.dat Y25,.dat Y26,.dat Y26,.dat Y30,.dat Y31,.dat YI,.dat YI,.dat YI]),(4,[.dat YI,.dat Y24,.dat Y25,.dat Y26,.dat Y26,.own 2 YI,.own 46 Y45,.dat YI,.dat YI,.dat YI]),(10,[.own 2 YI,.dat YI,.own 2 YI,.dat .bool,.dat .bool,.dat .bool,.dat YI,.own 2 YI,.own 2 YI,.own 2 YI,.own 2 YI]),(11,[.own 2 YI,.dat YI,.own 2 YI,.dat .bool,.dat .bool,.dat .bool,.dat YI,.own 2 YI,.own 2 YI,.own 2 YI,.own 2 YI])],rows:=[] })]
def l_gd_26 (rec:i_gd_26.den→Option (denO o_gd_26)) (u:i_gd_26.den):Option (denO o_gd_26):=
 let v32:=((u.2.1.1.2.2.1.length:Nat):Int)
 if (ltI u.1.2.2.2.2.2.2.2.1 v32) then
  if u.1.2.2.2.2.2.2.1=false then
   if 0≤u.1.2.2.2.2.2.2.2.1 then
    ((u.2.1.1.2.2.1)[(u.1.2.2.2.2.2.2.2.1).toNat]?).bind fun y33=>
    if (y33.1==u.1.2.2.1)=true then
     if 0≤u.1.2.2.2.2.2.2.2.1 then
      ((u.2.1.1.2.2.1)[(u.1.2.2.2.2.2.2.2.1).toNat]?).bind fun y34=>
      let v35:=(IntKind.i64.wrap (u.1.2.2.2.2.2.2.2.1+(1:Int)))
      rec (((),((),(u.1.2.2.1,(u.1.2.2.2.1,((),((),((y34.2.1==u.1.2.2.2.1),(v35,((),((),(u.1.2.2.2.2.2.2.2.2.2.2.1,(u.1.2.2.2.2.2.2.2.2.2.2.2.1,())))))))))))),((u.2.1.1,(u.2.1.2.1,(u.2.1.2.2.1,(u.2.1.2.2.2.1,())))),()))
     else none
    else
     let v36:=(IntKind.i64.wrap (u.1.2.2.2.2.2.2.2.1+(1:Int)))
     rec (((),((),(u.1.2.2.1,(u.1.2.2.2.1,((),((),(false,(v36,((),((),(u.1.2.2.2.2.2.2.2.2.2.2.1,(u.1.2.2.2.2.2.2.2.2.2.2.2.1,())))))))))))),((u.2.1.1,(u.2.1.2.1,(u.2.1.2.2.1,(u.2.1.2.2.2.1,())))),()))
   else none
  else
   let v37:=(IntKind.i64.wrap (u.1.2.2.2.2.2.2.2.1+(1:Int)))
   rec (((),((),(u.1.2.2.1,(u.1.2.2.2.1,((),((),(true,(v37,((),((),(u.1.2.2.2.2.2.2.2.2.2.2.1,(u.1.2.2.2.2.2.2.2.2.2.2.2.1,())))))))))))),((u.2.1.1,(u.2.1.2.1,(u.2.1.2.2.1,(u.2.1.2.2.2.1,())))),()))
 else
  some (.inl (((),((),(u.1.2.2.1,(u.1.2.2.2.1,((),((),(u.1.2.2.2.2.2.2.1,((),((),(u.1.2.2.2.2.2.2.2.2.2.2.1,(u.1.2.2.2.2.2.2.2.2.2.2.2.1,()))))))))))),((u.2.1.1,(u.2.1.2.1,(u.2.1.2.2.1,(u.2.1.2.2.2.1,())))),())))
def L_gd_26 (x:i_gd_26.den):Option (denO o_gd_26):=Qc l_gd_26 lots x
abbrev i_gd_18:Shp:={ slots:=[(3,.s (.ptr 3 0)),(4,.s (.ptr 4 0)),(5,.s (.dat YI)),(9,.s (.dat YI))],boxes:=[(3,[.dat Y24,.dat Y25,.dat Y26,.dat Y26,.dat Y30,.dat Y31,.dat YI,.dat YI,.dat YI]),(4,[.dat YI,.dat Y24,.dat Y25,.dat Y26,.dat Y26,.own 2 YI,.own 46 Y45,.dat YI,.dat YI,.dat YI])],rows:=[] }
abbrev o_gd_18:List (Ex×Shp):=[(.exit 2,{ slots:=[(4,.s (.ptr 4 0))],boxes:=[(4,[.dat YI,.dat Y24,.dat Y25,.dat Y26,.dat Y26,.own 2 YI,.own 46 Y45,.dat YI,.dat YI,.dat YI])],rows:=[] }),(.ret,{ slots:=[(2,.s (.dat .bool))],boxes:=[],rows:=[] })]
def l_gd_18 (rec:i_gd_18.den→Option (denO o_gd_18)) (u:i_gd_18.den):Option (denO o_gd_18):=
 let v26:=((u.2.1.1.2.2.2.2.2.1.length:Nat):Int)
 if (ltI u.1.2.2.2.1 v26) then
  if (u.1.2.2.2.1==u.1.2.2.1) then
   let v27:=(IntKind.i64.wrap (u.1.2.2.2.1+(1:Int)))
   rec (((),((),(u.1.2.2.1,(v27,())))),((u.2.1.1,(u.2.1.2.1,())),()))
  else
   (F_ga (((u.2.1.1.1,(u.2.1.1.2.1,(u.2.1.1.2.2.1,(u.2.1.1.2.2.2.1,())))),(u.2.1.1.2.2.2.2.1,(u.2.1.1.2.2.2.2.2.1,(u.2.1.1.2.2.2.2.2.2.1,(u.2.1.1.2.2.2.2.2.2.2.1,(u.2.1.1.2.2.2.2.2.2.2.2.1,())))))),u.1.2.2.2.1,())).bind fun r28=>
   (F_ga (((u.2.1.2.1.2.1,(u.2.1.2.1.2.2.1,(u.2.1.2.1.2.2.2.1,(u.2.1.2.1.2.2.2.2.1,())))),(u.2.1.2.1.2.2.2.2.2.1,(u.2.1.2.1.2.2.2.2.2.2.1,(u.2.1.2.1.2.2.2.2.2.2.2.1,(u.2.1.2.1.2.2.2.2.2.2.2.2.1,(u.2.1.2.1.2.2.2.2.2.2.2.2.2.1,())))))),u.1.2.2.2.1,())).bind fun r29=>
   if r29.1.1.2.2.2.2.2.2.1=true then
    if (!r28.1.1.2.2.2.2.2.2.1) then
     (L_gd_26 (((),((),(u.1.2.2.1,(u.1.2.2.2.1,((),((),(false,((0:Int),((),((),(r28.1.1.2.2.2.2.2.2.1,((!r28.1.1.2.2.2.2.2.2.1),())))))))))))),((u.2.1.1,(u.2.1.2.1,((r28.1.1.2.1,(r28.1.1.2.2.1,(r28.1.1.2.2.2.1,(r28.1.1.2.2.2.2.1,(r28.1.1.2.2.2.2.2.1,(r28.1.1.2.2.2.2.2.2.1,(r28.1.1.2.2.2.2.2.2.2.1,(r28.1.1.2.2.2.2.2.2.2.2.1,(r28.1.1.2.2.2.2.2.2.2.2.2.1,(r28.1.1.2.2.2.2.2.2.2.2.2.2.1,(r28.1.1.2.2.2.2.2.2.2.2.2.2.2.1,()))))))))))),((r29.1.1.2.1,(r29.1.1.2.2.1,(r29.1.1.2.2.2.1,(r29.1.1.2.2.2.2.1,(r29.1.1.2.2.2.2.2.1,(r29.1.1.2.2.2.2.2.2.1,(r29.1.1.2.2.2.2.2.2.2.1,(r29.1.1.2.2.2.2.2.2.2.2.1,(r29.1.1.2.2.2.2.2.2.2.2.2.1,(r29.1.1.2.2.2.2.2.2.2.2.2.2.1,(r29.1.1.2.2.2.2.2.2.2.2.2.2.2.1,()))))))))))),())))),()))).bind fun z38=>
     match z38 with
     | .inl x39=>
      if (!x39.1.2.2.2.2.2.2.1) then
       some (.inr (.inl ((false,()),((),()))))
      else
       (F_gc (((x39.2.1.2.2.1.1,(x39.2.1.2.2.1.2.1,(x39.2.1.2.2.1.2.2.1,(x39.2.1.2.2.1.2.2.2.1,(x39.2.1.2.2.1.2.2.2.2.1,(x39.2.1.2.2.1.2.2.2.2.2.1,(x39.2.1.2.2.1.2.2.2.2.2.2.1,(x39.2.1.2.2.1.2.2.2.2.2.2.2.1,(x39.2.1.2.2.1.2.2.2.2.2.2.2.2.1,()))))))))),(x39.2.1.2.2.1.2.2.2.2.2.2.2.2.2.1,(x39.2.1.2.2.1.2.2.2.2.2.2.2.2.2.2.1,()))),((x39.2.1.2.2.2.1.1,(x39.2.1.2.2.2.1.2.1,(x39.2.1.2.2.2.1.2.2.1,(x39.2.1.2.2.2.1.2.2.2.1,(x39.2.1.2.2.2.1.2.2.2.2.1,(false,(x39.2.1.2.2.2.1.2.2.2.2.2.2.1,(x39.2.1.2.2.2.1.2.2.2.2.2.2.2.1,(x39.2.1.2.2.2.1.2.2.2.2.2.2.2.2.1,()))))))))),(x39.2.1.2.2.2.1.2.2.2.2.2.2.2.2.2.1,(x39.2.1.2.2.2.1.2.2.2.2.2.2.2.2.2.2.1,()))),())).bind fun r40=>
       if (!r40.1.1) then
        some (.inr (.inl ((false,()),((),()))))
       else
        let v41:=(IntKind.i64.wrap (x39.1.2.2.2.1+(1:Int)))
        rec (((),((),(x39.1.2.2.1,(v41,())))),((x39.2.1.1,(x39.2.1.2.1,())),()))
     | .inr z38_=>
      none
    else
     (F_gc (((r28.1.1.2.1,(r28.1.1.2.2.1,(r28.1.1.2.2.2.1,(r28.1.1.2.2.2.2.1,(r28.1.1.2.2.2.2.2.1,(r28.1.1.2.2.2.2.2.2.1,(r28.1.1.2.2.2.2.2.2.2.1,(r28.1.1.2.2.2.2.2.2.2.2.1,(r28.1.1.2.2.2.2.2.2.2.2.2.1,()))))))))),(r28.1.1.2.2.2.2.2.2.2.2.2.2.1,(r28.1.1.2.2.2.2.2.2.2.2.2.2.2.1,()))),((r29.1.1.2.1,(r29.1.1.2.2.1,(r29.1.1.2.2.2.1,(r29.1.1.2.2.2.2.1,(r29.1.1.2.2.2.2.2.1,(r29.1.1.2.2.2.2.2.2.1,(r29.1.1.2.2.2.2.2.2.2.1,(r29.1.1.2.2.2.2.2.2.2.2.1,(r29.1.1.2.2.2.2.2.2.2.2.2.1,()))))))))),(r29.1.1.2.2.2.2.2.2.2.2.2.2.1,(r29.1.1.2.2.2.2.2.2.2.2.2.2.2.1,()))),())).bind fun r42=>
     if (!r42.1.1) then
      some (.inr (.inl ((false,()),((),()))))
     else
      let v43:=(IntKind.i64.wrap (u.1.2.2.2.1+(1:Int)))
      rec (((),((),(u.1.2.2.1,(v43,())))),((u.2.1.1,(u.2.1.2.1,())),()))
   else
    (F_gc (((r28.1.1.2.1,(r28.1.1.2.2.1,(r28.1.1.2.2.2.1,(r28.1.1.2.2.2.2.1,(r28.1.1.2.2.2.2.2.1,(r28.1.1.2.2.2.2.2.2.1,(r28.1.1.2.2.2.2.2.2.2.1,(r28.1.1.2.2.2.2.2.2.2.2.1,(r28.1.1.2.2.2.2.2.2.2.2.2.1,()))))))))),(r28.1.1.2.2.2.2.2.2.2.2.2.2.1,(r28.1.1.2.2.2.2.2.2.2.2.2.2.2.1,()))),((r29.1.1.2.1,(r29.1.1.2.2.1,(r29.1.1.2.2.2.1,(r29.1.1.2.2.2.2.1,(r29.1.1.2.2.2.2.2.1,(r29.1.1.2.2.2.2.2.2.1,(r29.1.1.2.2.2.2.2.2.2.1,(r29.1.1.2.2.2.2.2.2.2.2.1,(r29.1.1.2.2.2.2.2.2.2.2.2.1,()))))))))),(r29.1.1.2.2.2.2.2.2.2.2.2.2.1,(r29.1.1.2.2.2.2.2.2.2.2.2.2.2.1,()))),())).bind fun r44=>
    if (!r44.1.1) then
     some (.inr (.inl ((false,()),((),()))))
    else
     let v45:=(IntKind.i64.wrap (u.1.2.2.2.1+(1:Int)))
     rec (((),((),(u.1.2.2.1,(v45,())))),((u.2.1.1,(u.2.1.2.1,())),()))
 else
  some (.inl (((),()),((u.2.1.2.1,()),())))
def L_gd_18 (x:i_gd_18.den):Option (denO o_gd_18):=Qc l_gd_18 lots x
abbrev i_gd_13:Shp:={ slots:=[(3,.s (.ptr 3 0)),(4,.s (.ptr 4 0)),(5,.s (.dat YI)),(6,.s (.ptr 6 0)),(7,.s (.ptr 7 0)),(8,.s (.dat YI))],boxes:=[(3,[.dat Y24,.dat Y25,.dat Y26,.dat Y26,.dat Y30,.dat Y31,.dat YI,.dat YI,.dat YI]),(4,[.dat YI,.dat Y24,.dat Y25,.dat Y26,.dat Y26,.own 2 YI,.own 46 Y45,.dat YI,.dat YI,.dat YI]),(6,[.dat YI,.own 2 YI]),(7,[.dat YI,.own 2 YI])],rows:=[] }
abbrev o_gd_13:List (Ex×Shp):=[(.exit 0,{ slots:=[(3,.s (.ptr 3 0)),(4,.s (.ptr 4 0)),(5,.s (.dat YI))],boxes:=[(3,[.dat Y24,.dat Y25,.dat Y26,.dat Y26,.dat Y30,.dat Y31,.dat YI,.dat YI,.dat YI]),(4,[.dat YI,.dat Y24,.dat Y25,.dat Y26,.dat Y26,.own 2 YI,.own 46 Y45,.dat YI,.dat YI,.dat YI])],rows:=[] }),(.ret,{ slots:=[(2,.s (.dat .bool))],boxes:=[],rows:=[] })]
def l_gd_13 (rec:i_gd_13.den→Option (denO o_gd_13)) (u:i_gd_13.den):Option (denO o_gd_13):=
 let v11:=((u.2.1.2.2.2.1.2.1.length:Nat):Int)
 if (ltI u.1.2.2.2.2.2.1 v11) then
  if 0≤u.1.2.2.2.2.2.1∧u.1.2.2.2.2.2.1< ((u.2.1.2.2.2.1.2.1.length:Nat):Int) then
   ((u.2.1.2.2.2.1.2.1)[(u.1.2.2.2.2.2.1).toNat]?).bind fun y12=>
   (F_fx (u.2.1.2.2.1.2.1,y12,())).bind fun r13=>
   if (!r13.1.1) then
    some (.inr (.inl ((false,()),((),()))))
   else
    let v14:=(IntKind.i64.wrap (u.1.2.2.2.2.2.1+(1:Int)))
    rec (((),((),(u.1.2.2.1,((),((),(v14,())))))),((u.2.1.1,(u.2.1.2.1,(u.2.1.2.2.1,(u.2.1.2.2.2.1,())))),()))
  else none
 else
  some (.inl (((),((),(u.1.2.2.1,()))),((u.2.1.1,(u.2.1.2.1,())),())))
def L_gd_13 (x:i_gd_13.den):Option (denO o_gd_13):=Qc l_gd_13 lots x
def F_gd (x:denP P_a):FO P_a R_a:=
 (F_a (x.1,())).bind fun r1=>
 if r1.1.1 then
  some ((true,()),())
 else
  (F_ca (x.1,())).bind fun r2=>
  (F_ff (r2.1.1,())).bind fun r3=>
  if (r3.1.1.1 !=(0:Int)) then
   (F_fm (r2.1.1,())).bind fun r4=>
   some (((r4.1.1.1==r3.1.1.1),()),())
  else
   if 0≤r2.1.1.2.2.2.1 then
    ((r2.1.1.1.2.2.2.1)[(r2.1.1.2.2.2.1).toNat]?).bind fun y5=>
    (F_ft (r2.1.1.1,y5.1,())).bind fun r6=>
    (F_fw (r2.1.1.2.1,r3.1.1.2.2.2.2.2.1,())).bind fun r7=>
    if (r6.1.1.1 !=(0:Int))=false then
     if (r7.1.1.1 !=(0:Int))=false then
      let v8:=((r7.1.1.2.1.length:Nat):Int)
      if (ltI (1:Int) v8) then
       some ((false,()),())
      else
       (L_gd_13 (((),((),(y5.1,((),((),((0:Int),())))))),(((r2.1.1.1.1,(r2.1.1.1.2.1,(r2.1.1.1.2.2.1,(r2.1.1.1.2.2.2.1,(r2.1.1.2.1,(r2.1.1.2.2.1,(r2.1.1.2.2.2.1,(r2.1.1.2.2.2.2.1,(r2.1.1.2.2.2.2.2.1,()))))))))),(r3.1.1,(r6.1.1,(r7.1.1,())))),()))).bind fun z15=>
       match z15 with
       | .inl x16=>
        (L_gd_18 (((),((),(x16.1.2.2.1,((0:Int),())))),((x16.2.1.1,(x16.2.1.2.1,())),()))).bind fun z46=>
        match z46 with
        | .inl x47=>
         (F_de (((x47.2.1.1.2.1,(x47.2.1.1.2.2.1,(x47.2.1.1.2.2.2.1,(x47.2.1.1.2.2.2.2.1,())))),(x47.2.1.1.2.2.2.2.2.1,(x47.2.1.1.2.2.2.2.2.2.1,(x47.2.1.1.2.2.2.2.2.2.2.1,(x47.2.1.1.2.2.2.2.2.2.2.2.1,(x47.2.1.1.2.2.2.2.2.2.2.2.2.1,())))))),())).bind fun r48=>
         some (((r48.1.1==(0:Int)),()),())
        | .inr z46_=>
         match z46_ with
         | .inl x49=>
          some ((x49.1.1,()),())
         | .inr z46__=>
          none
       | .inr z15_=>
        match z15_ with
        | .inl x50=>
         some ((x50.1.1,()),())
        | .inr z15__=>
         none
     else
      some ((false,()),())
    else
     some ((false,()),())
   else none
abbrev C_gd:Con:=⟨P_a,R_a,F_gd,false⟩
abbrev G_gd:Env:=[(6,C_a),(7,C_ca),(8,C_ff),(9,C_fm),(10,C_ft),(11,C_fw),(12,C_fx),(13,C_ga),(14,C_gc),(15,C_de)]
theorem g_gd:Qg Tryz.prog G_gd:=(Qa s_a (Qa s_ca (Qa s_ff (Qa s_fm (Qa s_ft (Qa s_fw (Qa s_fx (Qa s_ga (Qa s_gc (Qa s_de Qd))))))))))
abbrev c_gd_26:Cut:=⟨i_gd_26,o_gd_26,fun x=>Qc l_gd_26 lots x⟩
theorem k_gd_26:Qu Tryz.prog 148 (.loop (nav Tryz.f3 [1,1,1,1,1,1,1,1,1,1,0,1,0,0,1,0,0,1,1,1,0,1,0,1,0,1,0,0])) c_gd_26:=
  Qi (L:=[]) hT g_gd (fun _ _=>by kernel_rfl) okP _
abbrev c_gd_18:Cut:=⟨i_gd_18,o_gd_18,fun x=>Qc l_gd_18 lots x⟩
theorem t_gd_18 (rec x):run T G_gd [(26,c_gd_26)] (nav Tryz.f3 [1,1,1,1,1,1,1,1,1,1,0,1,0,0]) (mk 148 i_gd_18 x) (Qfq i_gd_18 o_gd_18 rec)=l_gd_18 rec x:=by kernel_rfl
theorem k_gd_18:Qu Tryz.prog 148 (.loop (nav Tryz.f3 [1,1,1,1,1,1,1,1,1,1,0,1,0,0])) c_gd_18:=
  Qi (L:=[(26,c_gd_26)]) hT g_gd t_gd_18 (okS okP (okS (okB (okS okP (okS okP (okS okP (okS (okS okP (okI (okS okP (okS (okS okP (okB (okU k_gd_26))) okP)) okP)) okP))))) okP)) _
abbrev c_gd_13:Cut:=⟨i_gd_13,o_gd_13,fun x=>Qc l_gd_13 lots x⟩
theorem k_gd_13:Qu Tryz.prog 148 (.loop (nav Tryz.f3 [1,1,1,1,1,1,1,1,1,0,1,0,0])) c_gd_13:=
  Qi (L:=[]) hT g_gd (fun _ _=>by kernel_rfl) okP _
theorem r_gd (x):QK T G_gd [(26,c_gd_26),(18,c_gd_18),(13,c_gd_13)] Tryz.f3 C_gd.ps C_gd.rs x=C_gd.F x:=by kernel_rfl
theorem s_gd:Qb Tryz.prog 3 C_gd:=fnC (L:=[(26,c_gd_26),(18,c_gd_18),(13,c_gd_13)]) hT g_gd Tryz.f3 (okS okP (okS okP (okS okP (okS okP (okS okP (okS okP (okS okP (okS okP (okS okP (okS (okS okP (okB (okU k_gd_13))) (okS (okS okP (okB (okU k_gd_18))) okP))))))))))) r_gd
theorem q_gd:QeX Tryz.prog 3 C_gd:=
  QvZ (L:=[(26,c_gd_26),(18,c_gd_18),(13,c_gd_13)]) hT g_gd Tryz.f3 (by kernel_rfl) (by kernel_rfl) (okS okP (okS okP (okS okP (okS okP (okS okP (okS okP (okS okP (okS okP (okS okP (okS (okS okP (okB (okU k_gd_13))) (okS (okS okP (okB (okU k_gd_18))) okP))))))))))) r_gd
end Go.Proofs.YtkkljegcnnfanaaGreatDoor
