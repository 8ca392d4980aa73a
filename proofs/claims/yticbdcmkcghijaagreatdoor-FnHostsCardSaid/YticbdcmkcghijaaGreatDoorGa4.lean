/- The functions of the laws, each as a plain function of data (F), and that the program's text does what F says. Printed by a program (wip/tools/gen.py). -/
import Derived.Test.YticbdcmkcghijaaGreatDoorGa3
namespace Go.Proofs.YticbdcmkcghijaaGreatDoor
open Go Go.RowKit S Go.Proofs
set_option maxRecDepth 100000
def F_fe (x:denP P_bt):FO P_bt R_ap:=
 (F_do (((x.1.1,(x.1.2.1,(x.1.2.2.1,(x.1.2.2.2.1,())))),(x.1.2.2.2.2.1,(x.1.2.2.2.2.2.1,(x.1.2.2.2.2.2.2.1,(x.1.2.2.2.2.2.2.2.1,(x.1.2.2.2.2.2.2.2.2.1,())))))),())).bind fun r1=>
 if 0≤r1.1.1∧r1.1.1< ((x.1.2.2.2.2.2.1.length:Nat):Int) then
  ((x.1.2.2.2.2.2.1)[(r1.1.1).toNat]?).bind fun y2=>
  (F_dt ((x.1.1,(x.1.2.1,(x.1.2.2.1,(x.1.2.2.2.1,())))),r1.1.1,())).bind fun r3=>
  (F_fd (y2,r3.1.1,x.1.2.2.2.2.1,(1:Int),())).bind fun r4=>
  if 0≤r1.1.1∧r1.1.1< ((x.1.2.2.2.2.2.1.length:Nat):Int) then
   ((x.1.2.2.2.2.2.1)[(r1.1.1).toNat]?).bind fun y5=>
   let v6:=(x.1.2.2.2.2.2.1.set (r1.1.1).toNat (r4.1.1.2.2.2.1,(r4.1.1.2.2.2.2.1,(r4.1.1.2.2.2.2.2.1,(r4.1.1.2.2.2.2.2.2.1,(r4.1.1.2.2.2.2.2.2.2.1,(r4.1.1.2.2.2.2.2.2.2.2.1,(r4.1.1.2.2.2.2.2.2.2.2.2.1,(r4.1.1.2.2.2.2.2.2.2.2.2.2.1,(r4.1.1.2.2.2.2.2.2.2.2.2.2.2.1,()))))))))))
   (F_cq (x.1.2.2.1,(r1.1.1,(r4.1.1.2.2.1,())),())).bind fun r7=>
   if r7.1.1 then
    if 0≤r4.1.1.2.2.1∧r4.1.1.2.2.1< ((v6.length:Nat):Int) then
     ((v6)[(r4.1.1.2.2.1).toNat]?).bind fun y8=>
     let v9:=(v6.set (r4.1.1.2.2.1).toNat (y8.1,(y8.2.1,(y8.2.2.1,(y8.2.2.2.1,(y8.2.2.2.2.1,(true,y8.2.2.2.2.2.2)))))))
     let v10:=(IntKind.i64.wrap (x.1.2.2.2.2.2.2.2.1-(1:Int)))
     if (v10==(0:Int)) then
      let v11:=(IntKind.i64.wrap (x.1.2.2.2.2.2.2.1+(1:Int)))
      let v12:=((x.1.2.2.2.1.length:Nat):Int)
      if v12=0 then none else
      let v13:=((v11).tmod v12)
      if 0≤v13 then
       ((x.1.2.2.2.1)[(v13).toNat]?).bind fun y14=>
       let v15:=(IntKind.i64.wrap (x.1.2.2.2.2.2.2.2.2.1+(1:Int)))
       some ((),((x.1.1,(x.1.2.1,(x.1.2.2.1,(x.1.2.2.2.1,(r4.1.1.2.2.2.2.2.2.2.2.2.2.2.2.1,(v9,(v13,(y14.2.1,(v15,()))))))))),()))
      else none
     else
      let v16:=(IntKind.i64.wrap (x.1.2.2.2.2.2.2.2.2.1+(1:Int)))
      some ((),((x.1.1,(x.1.2.1,(x.1.2.2.1,(x.1.2.2.2.1,(r4.1.1.2.2.2.2.2.2.2.2.2.2.2.2.1,(v9,(x.1.2.2.2.2.2.2.1,(v10,(v16,()))))))))),()))
    else none
   else
    let v17:=(IntKind.i64.wrap (x.1.2.2.2.2.2.2.2.1-(1:Int)))
    if (v17==(0:Int)) then
     let v18:=(IntKind.i64.wrap (x.1.2.2.2.2.2.2.1+(1:Int)))
     let v19:=((x.1.2.2.2.1.length:Nat):Int)
     if v19=0 then none else
     let v20:=((v18).tmod v19)
     if 0≤v20 then
      ((x.1.2.2.2.1)[(v20).toNat]?).bind fun y21=>
      let v22:=(IntKind.i64.wrap (x.1.2.2.2.2.2.2.2.2.1+(1:Int)))
      some ((),((x.1.1,(x.1.2.1,(x.1.2.2.1,(x.1.2.2.2.1,(r4.1.1.2.2.2.2.2.2.2.2.2.2.2.2.1,(v6,(v20,(y21.2.1,(v22,()))))))))),()))
     else none
    else
     let v23:=(IntKind.i64.wrap (x.1.2.2.2.2.2.2.2.2.1+(1:Int)))
     some ((),((x.1.1,(x.1.2.1,(x.1.2.2.1,(x.1.2.2.2.1,(r4.1.1.2.2.2.2.2.2.2.2.2.2.2.2.1,(v6,(x.1.2.2.2.2.2.2.1,(v17,(v23,()))))))))),()))
  else none
 else none
abbrev C_fe:Con:=⟨P_bt,R_ap,F_fe,false⟩
abbrev G_fe:Env:=[(61,C_do),(62,C_fd),(63,C_dt),(64,C_cq)]
theorem g_fe:Qg Tryz.prog G_fe:=(Qa s_do (Qa s_fd (Qa s_dt (Qa s_cq Qc))))
theorem s_fe:Qb Tryz.prog 28 C_fe:=fnC (L:=[]) hT g_fe Tryz.f28 okP fun _=>by kernel_rfl
abbrev P_ff:List PK:=[.val Y32,.val YI]
abbrev R_ff:List VK:=[.g [.dat YI,.dat Y24,.dat Y25,.dat Y26,.dat Y26,.own 2 YI,.own 42 Y41,.dat YI,.dat YI,.dat YI]]
abbrev i_ff_8:Shp:={ slots:=[(4,.s (.ptr 4 0)),(6,.s (.ptr 6 0)),(26,.s (.dat YI)),(27,.s (.dat YI))],boxes:=[(4,[.dat YI,.own 30 Y30,.own 130 Y129,.own 114 Y51,.own 52 Y51,.own 2 YI,.own 42 Y41,.dat YI,.dat YI,.dat YI]),(6,[.dat Y24,.dat Y25,.dat Y26,.dat Y26,.own 2 YI,.own 42 Y41,.dat YI,.dat YI,.dat YI])],rows:=[] }
abbrev o_ff_8:List (Ex×Shp):=[(.exit 0,{ slots:=[(4,.s (.ptr 4 0)),(6,.s (.ptr 6 0))],boxes:=[(4,[.dat YI,.own 30 Y30,.own 130 Y129,.own 114 Y51,.own 52 Y51,.own 2 YI,.own 42 Y41,.dat YI,.dat YI,.dat YI]),(6,[.dat Y24,.dat Y25,.dat Y26,.dat Y26,.own 2 YI,.own 42 Y41,.dat YI,.dat YI,.dat YI])],rows:=[] })]
def l_ff_8 (rec:i_ff_8.den→Option (denO o_ff_8)) (u:i_ff_8.den):Option (denO o_ff_8):=
 if (ltI u.1.2.2.2.1 u.1.2.2.1) then
  (F_fe (u.2.1.2.1,())).bind fun r7=>
  let v8:=(IntKind.i64.wrap (u.1.2.2.2.1+(1:Int)))
  rec (((),((),(u.1.2.2.1,(v8,())))),((u.2.1.1,(r7.2.1,())),()))
 else
  some (.inl (((),((),())),((u.2.1.1,(u.2.1.2.1,())),())))
def L_ff_8 (x:i_ff_8.den):Option (denO o_ff_8):=Qd l_ff_8 lots x
def F_ff (x:denP P_ff):FO P_ff R_ff:=
 (F_de (x.1,())).bind fun r1=>
 if (r1.1.1 !=(0:Int)) then
  some (((r1.1.1,(([]:List (den Y30)),(([]:List (den Y129)),(([]:List (den Y51)),(([]:List (den Y51)),(([]:List (den YI)),(([]:List (den Y41)),((0:Int),((0:Int),((0:Int),())))))))))),()),())
 else
  (F_cb (x.2.1,(0:Int),(500:Int),())).bind fun r2=>
  if (!r2.1.1)=false then
   let v3:=(IntKind.i64.wrap (x.1.2.2.2.2.2.1+x.2.1))
   if (ltI (1000000:Int) v3) then
    some ((((3:Int),(([]:List (den Y30)),(([]:List (den Y129)),(([]:List (den Y51)),(([]:List (den Y51)),(([]:List (den YI)),(([]:List (den Y41)),((0:Int),((0:Int),((0:Int),())))))))))),()),())
   else
    (F_dn (x.1,())).bind fun r4=>
    (L_ff_8 (((),((),(x.2.1,((0:Int),())))),((((0:Int),(([]:List (den Y30)),(([]:List (den Y129)),(([]:List (den Y51)),(([]:List (den Y51)),(([]:List (den YI)),(([]:List (den Y41)),((0:Int),((0:Int),((0:Int),())))))))))),(r4.1.1,())),()))).bind fun z9=>
    match z9 with
    | .inl x10=>
     some ((((0:Int),x10.2.1.2.1),()),())
    | .inr z9_=>
     none
  else
   some ((((3:Int),(([]:List (den Y30)),(([]:List (den Y129)),(([]:List (den Y51)),(([]:List (den Y51)),(([]:List (den YI)),(([]:List (den Y41)),((0:Int),((0:Int),((0:Int),())))))))))),()),())
abbrev C_ff:Con:=⟨P_ff,R_ff,F_ff,false⟩
abbrev G_ff:Env:=[(17,C_de),(26,C_cb),(27,C_dn),(28,C_fe)]
theorem g_ff:Qg Tryz.prog G_ff:=(Qa s_de (Qa s_cb (Qa s_dn (Qa s_fe Qc))))
abbrev c_ff_8:Cut:=⟨i_ff_8,o_ff_8,fun x=>Qd l_ff_8 lots x⟩
theorem k_ff_8:QB Tryz.prog 33 (.loop (nav Tryz.f9 [1,1,1,1,0,1,0,0])) c_ff_8:=
  Qh (L:=[]) hT g_ff (fun _ _=>by kernel_rfl) okP _
theorem r_ff (x):QM T G_ff [(8,c_ff_8)] Tryz.f9 C_ff.ps C_ff.rs x=C_ff.F x:=by kernel_rfl
theorem s_ff:Qb Tryz.prog 9 C_ff:=fnC (L:=[(8,c_ff_8)]) hT g_ff Tryz.f9 (okS okP (okS okP (okS okP (okS okP (okS (okS okP (okB (okU k_ff_8))) okP))))) r_ff
def l_fg_4 (rec:i_ae_2.den→Option (denO o_l_4)) (u:i_ae_2.den):Option (denO o_l_4):=
 let v7:=((u.1.1.length:Nat):Int)
 if (ltI u.1.2.1 v7) then
  if 0≤u.1.2.1 then
   ((u.1.1)[(u.1.2.1).toNat]?).bind fun y8=>
   (F_e (y8,(0:Int),(4294967295:Int),())).bind fun r9=>
   if (!r9.1.1) then
    some (.inr (.inl (((3:Int),()),((),()))))
   else
    let v10:=(IntKind.i64.wrap (u.1.2.1+(1:Int)))
    rec ((u.1.1,(v10,())),((),()))
  else none
 else
  some (.inl ((),((),())))
def L_fg_4 (x:i_ae_2.den):Option (denO o_l_4):=Qd l_fg_4 lots x
def F_fg (x:denP P_ae):FO P_ae R_c:=
 let v1:=((x.1.length:Nat):Int)
 let v2:=((v1).tmod (8:Int))
 if (v2 !=(0:Int))=false then
  let v3:=((x.1.length:Nat):Int)
  if (ltI v3 (8:Int))=false then
   let v4:=((x.1.length:Nat):Int)
   if (ltI (192:Int) v4) then
    some (((1:Int),()),())
   else
    (L_fg_4 ((x.1,((0:Int),())),((),()))).bind fun z11=>
    match z11 with
    | .inl x12=>
     some (((0:Int),()),())
    | .inr z11_=>
     match z11_ with
     | .inl x13=>
      some ((x13.1.1,()),())
     | .inr z11__=>
      none
  else
   some (((1:Int),()),())
 else
  some (((1:Int),()),())
abbrev C_fg:Con:=⟨P_ae,R_c,F_fg,false⟩
theorem g_fg:Qg Tryz.prog G_h:=(Qa s_e Qc)
abbrev c_fg_4:Cut:=⟨i_ae_2,o_l_4,fun x=>Qd l_fg_4 lots x⟩
theorem k_fg_4:QB Tryz.prog 30 (.loop (nav Tryz.f109 [1,1,0,1,0,0])) c_fg_4:=
  Qh (L:=[]) hT g_fg (fun _ _=>by kernel_rfl) okP _
theorem r_fg (x):QM T G_h [(4,c_fg_4)] Tryz.f109 C_fg.ps C_fg.rs x=C_fg.F x:=by kernel_rfl
theorem s_fg:Qb Tryz.prog 109 C_fg:=fnC (L:=[(4,c_fg_4)]) hT g_fg Tryz.f109 (okS okP (okS okP (okS (okS okP (okB (okU k_fg_4))) okP))) r_fg
def F_fh (x:denP P_ae):FO P_ae R_a:=
 (F_fg (x.1,())).bind fun r1=>
 if (r1.1.1==(0:Int))=true then
  let v2:=((x.1.length:Nat):Int)
  some (((v2==(192:Int)),()),())
 else
  some ((false,()),())
abbrev C_fh:Con:=⟨P_ae,R_a,F_fh,false⟩
abbrev G_fh:Env:=[(109,C_fg)]
theorem g_fh:Qg Tryz.prog G_fh:=(Qa s_fg Qc)
theorem s_fh:Qb Tryz.prog 66 C_fh:=fnC (L:=[]) hT g_fh Tryz.f66 okP fun _=>by kernel_rfl
def F_fi (x:denP P_an):FO P_an R_c:=
 let v1:=((x.1.1.length:Nat):Int)
 if (v1 !=(16:Int))=false then
  let v2:=((x.1.2.2.1.length:Nat):Int)
  if (v2 !=(11:Int))=false then
   ((x.1.1)[((0:Int)).toNat]?).bind fun y3=>
   if (y3 !=(0:Int)) then
    some (((1:Int),()),())
   else
    (F_ae (x.1.1,())).bind fun r4=>
    if (!r4.1.1)=false then
     (F_ad (x.1.2.1,())).bind fun r5=>
     if (!r5.1.1)=false then
      (F_ae (x.1.2.2.1,())).bind fun r6=>
      if (!r6.1.1)=false then
       (F_ae (x.1.2.2.2.2.2.2.2.1,())).bind fun r7=>
       if (!r7.1.1)=false then
        (F_ae (x.1.2.2.2.2.2.2.2.2.1,())).bind fun r8=>
        if (!r8.1.1) then
         some (((3:Int),()),())
        else
         let v9:=((x.1.2.2.2.2.2.2.2.1.length:Nat):Int)
         if (ltI (40:Int) v9)=false then
          let v10:=((x.1.2.2.2.2.2.2.2.2.1.length:Nat):Int)
          if (ltI (40:Int) v10) then
           some (((2:Int),()),())
          else
           (F_e (x.1.2.2.2.2.2.2.1,(0:Int),(1000000000:Int),())).bind fun r11=>
           if (!r11.1.1) then
            some (((3:Int),()),())
           else
            ((x.1.2.2.1)[((0:Int)).toNat]?).bind fun y12=>
            if (ltI (3:Int) y12)=false then
             ((x.1.2.2.1)[((7:Int)).toNat]?).bind fun y13=>
             if (ltI (7:Int) y13)=false then
              ((x.1.2.2.1)[((10:Int)).toNat]?).bind fun y14=>
              if (ltI (8:Int) y14)=false then
               ((x.1.2.2.1)[((6:Int)).toNat]?).bind fun y15=>
               if (y15 !=(0:Int))=false then
                ((x.1.2.2.1)[((8:Int)).toNat]?).bind fun y16=>
                if (y16 !=(0:Int)) then
                 some (((1:Int),()),())
                else
                 some (((0:Int),()),())
               else
                some (((1:Int),()),())
              else
               some (((1:Int),()),())
             else
              some (((1:Int),()),())
            else
             some (((1:Int),()),())
         else
          some (((2:Int),()),())
       else
        some (((3:Int),()),())
      else
       some (((3:Int),()),())
     else
      some (((3:Int),()),())
    else
     some (((3:Int),()),())
  else
   some (((1:Int),()),())
 else
  some (((1:Int),()),())
abbrev C_fi:Con:=⟨P_an,R_c,F_fi,false⟩
abbrev G_fi:Env:=[(30,C_e),(110,C_ae),(111,C_ad)]
theorem g_fi:Qg Tryz.prog G_fi:=(Qa s_e (Qa s_ae (Qa s_ad Qc)))
theorem s_fi:Qb Tryz.prog 67 C_fi:=fnC (L:=[]) hT g_fi Tryz.f67 okP fun _=>by kernel_rfl
abbrev i_fj_8:Shp:={ slots:=[(0,.s (.pd Y28)),(8,.s (.dat YI)),(9,.s (.dat YI))],boxes:=[],rows:=[] }
abbrev o_fj_8:List (Ex×Shp):=[(.exit 2,{ slots:=[(0,.s (.pd Y28)),(8,.s (.dat YI)),(9,.s (.dat YI))],boxes:=[],rows:=[] })]
def l_fj_8 (rec:i_fj_8.den→Option (denO o_fj_8)) (u:i_fj_8.den):Option (denO o_fj_8):=
 if 0≤u.1.2.2.1 then
  ((u.1.1.2.2.2.1)[(u.1.2.2.1).toNat]?).bind fun y11=>
  if (leI y11.2.1 u.1.2.1) then
   if 0≤u.1.2.2.1 then
    ((u.1.1.2.2.2.1)[(u.1.2.2.1).toNat]?).bind fun y12=>
    let v13:=(IntKind.i64.wrap (u.1.2.1-y12.2.1))
    let v14:=(IntKind.i64.wrap (u.1.2.2.1+(1:Int)))
    rec ((u.1.1,(v13,(v14,()))),((),()))
   else none
  else
   some (.inl ((u.1.1,(u.1.2.1,(u.1.2.2.1,()))),((),())))
 else none
def L_fj_8 (x:i_fj_8.den):Option (denO o_fj_8):=Qd l_fj_8 lots x
abbrev i_fj_3:Shp:={ slots:=[(0,.s (.pd Y28)),(1,.s (.dat YI)),(6,.s (.dat YI)),(7,.s (.dat YI))],boxes:=[],rows:=[] }
def l_fj_3 (rec:i_fj_3.den→Option (denO o_dd_3)) (u:i_fj_3.den):Option (denO o_dd_3):=
 let v2:=((u.1.1.2.2.2.1.length:Nat):Int)
 if (ltI u.1.2.2.2.1 v2) then
  if 0≤u.1.2.2.2.1 then
   ((u.1.1.2.2.2.1)[(u.1.2.2.2.1).toNat]?).bind fun y3=>
   let v4:=(IntKind.i64.wrap (u.1.2.2.1+y3.2.1))
   let v5:=(IntKind.i64.wrap (u.1.2.2.2.1+(1:Int)))
   rec ((u.1.1,(u.1.2.1,(v4,(v5,())))),((),()))
  else none
 else
  some (.inl ((u.1.1,(u.1.2.1,(u.1.2.2.1,()))),((),())))
def L_fj_3 (x:i_fj_3.den):Option (denO o_dd_3):=Qd l_fj_3 lots x
def F_fj (x:denP P_h):FO P_h R_aw:=
 (L_fj_3 ((x.1,(x.2.1,((0:Int),((0:Int),())))),((),()))).bind fun z6=>
 match z6 with
 | .inl x7=>
  if x7.1.2.2.1=0 then none else
  let v8:=((x7.1.2.1).tmod x7.1.2.2.1)
  (L_fj_8 ((x7.1.1,(v8,((0:Int),()))),((),()))).bind fun z15=>
  match z15 with
  | .inl x16=>
   if 0≤x16.1.2.2.1 then
    ((x16.1.1.2.2.2.1)[(x16.1.2.2.1).toNat]?).bind fun y17=>
    let v18:=(IntKind.i64.wrap (y17.2.1-x16.1.2.1))
    some ((x16.1.2.2.1,v18,()),())
   else none
  | .inr z15_=>
   none
 | .inr z6_=>
  none
abbrev C_fj:Con:=⟨P_h,R_aw,F_fj,false⟩
abbrev c_fj_8:Cut:=⟨i_fj_8,o_fj_8,fun x=>Qd l_fj_8 lots x⟩
theorem k_fj_8:QB Tryz.prog 65 (.loop (nav Tryz.f68 [1,1,1,1,1,0,0,0])) c_fj_8:=
  Qh (L:=[]) hT g_a (fun _ _=>by kernel_rfl) okP _
abbrev c_fj_3:Cut:=⟨i_fj_3,o_dd_3,fun x=>Qd l_fj_3 lots x⟩
theorem k_fj_3:QB Tryz.prog 65 (.loop (nav Tryz.f68 [1,1,0,1,0,0])) c_fj_3:=
  Qh (L:=[]) hT g_a (fun _ _=>by kernel_rfl) okP _
theorem r_fj (x):QM T G_a [(8,c_fj_8),(3,c_fj_3)] Tryz.f68 C_fj.ps C_fj.rs x=C_fj.F x:=by kernel_rfl
theorem s_fj:Qb Tryz.prog 68 C_fj:=fnC (L:=[(8,c_fj_8),(3,c_fj_3)]) hT g_a Tryz.f68 (okS okP (okS okP (okS (okS okP (okB (okU k_fj_3))) (okS okP (okS okP (okS (okB (okU k_fj_8)) okP)))))) r_fj
abbrev i_fk_7:Shp:={ slots:=[(0,.s (.pd Y32)),(4,.s (.dat YI))],boxes:=[],rows:=[] }
abbrev o_fk_7:List (Ex×Shp):=[(.exit 0,{ slots:=[(0,.s (.pd Y32))],boxes:=[],rows:=[] }),(.ret,{ slots:=[(2,.s (.dat YI))],boxes:=[],rows:=[] })]
def l_fk_7 (rec:i_fk_7.den→Option (denO o_fk_7)) (u:i_fk_7.den):Option (denO o_fk_7):=
 let v7:=((u.1.1.2.2.1.length:Nat):Int)
 if (ltI u.1.2.1 v7) then
  if 0≤u.1.2.1 then
   ((u.1.1.2.2.1)[(u.1.2.1).toNat]?).bind fun y8=>
   (F_fi (y8,())).bind fun r9=>
   if (r9.1.1 !=(0:Int)) then
    some (.inr (.inl ((r9.1.1,()),((),()))))
   else
    let v10:=(IntKind.i64.wrap (u.1.2.1+(1:Int)))
    rec ((u.1.1,(v10,())),((),()))
  else none
 else
  some (.inl ((u.1.1,()),((),())))
def L_fk_7 (x:i_fk_7.den):Option (denO o_fk_7):=Qd l_fk_7 lots x
def F_fk (x:denP P_do):FO P_do R_c:=
 (F_x (x.1.1,())).bind fun r1=>
 if (r1.1.1 !=(0:Int)) then
  some ((r1.1.1,()),())
 else
  (F_fh (x.1.2.1,())).bind fun r2=>
  if (!r2.1.1)=false then
   let v3:=((x.1.2.2.1.length:Nat):Int)
   let v4:=((x.1.1.1.length:Nat):Int)
   if (v3 !=v4) then
    some (((1:Int),()),())
   else
    (L_fk_7 ((x.1,((0:Int),())),((),()))).bind fun z11=>
    match z11 with
    | .inl x12=>
     (F_e (x12.1.1.2.2.2.2.2.1,(0:Int),(1000000:Int),())).bind fun r13=>
     if (!r13.1.1) then
      some (((3:Int),()),())
     else
      (F_fj (x12.1.1.1,x12.1.1.2.2.2.2.2.1,())).bind fun r14=>
      if (x12.1.1.2.2.2.1 !=r14.1.1)=false then
       if (x12.1.1.2.2.2.2.1 !=r14.1.2.1) then
        some (((1:Int),()),())
       else
        some (((0:Int),()),())
      else
       some (((1:Int),()),())
    | .inr z11_=>
     match z11_ with
     | .inl x15=>
      some ((x15.1.1,()),())
     | .inr z11__=>
      none
  else
   some (((1:Int),()),())
abbrev C_fk:Con:=⟨P_do,R_c,F_fk,false⟩
abbrev G_fk:Env:=[(30,C_e),(65,C_x),(66,C_fh),(67,C_fi),(68,C_fj)]
theorem g_fk:Qg Tryz.prog G_fk:=(Qa s_e (Qa s_x (Qa s_fh (Qa s_fi (Qa s_fj Qc)))))
abbrev c_fk_7:Cut:=⟨i_fk_7,o_fk_7,fun x=>Qd l_fk_7 lots x⟩
theorem k_fk_7:QB Tryz.prog 85 (.loop (nav Tryz.f29 [1,1,1,0,1,0,0])) c_fk_7:=
  Qh (L:=[]) hT g_fk (fun _ _=>by kernel_rfl) okP _
theorem r_fk (x):QM T G_fk [(7,c_fk_7)] Tryz.f29 C_fk.ps C_fk.rs x=C_fk.F x:=by kernel_rfl
theorem s_fk:Qb Tryz.prog 29 C_fk:=fnC (L:=[(7,c_fk_7)]) hT g_fk Tryz.f29 (okS okP (okS okP (okS okP (okS (okS okP (okB (okU k_fk_7))) okP)))) r_fk
abbrev i_fl_3:Shp:={ slots:=[(1,.s (.ptr 1 0)),(2,.s (.ptr 2 0)),(3,.s (.ptr 3 0)),(4,.s (.dat YI))],boxes:=[(1,[.dat Y24,.dat Y25,.dat Y26,.dat Y26,.dat Y30,.dat Y31,.dat YI,.dat YI,.dat YI]),(2,[.own 30 Y30,.own 130 Y129,.own 114 Y51,.own 52 Y51,.own 2 YI,.own 42 Y41,.dat YI,.dat YI,.dat YI]),(3,[.own 30 Y30,.own 130 Y129,.own 114 Y51,.own 52 Y51,.own 2 YI,.own 42 Y41,.dat YI,.dat YI,.dat YI])],rows:=[] }
abbrev o_fl_3:List (Ex×Shp):=[(.exit 0,{ slots:=[(2,.s (.ptr 2 0)),(3,.s (.ptr 3 0))],boxes:=[(2,[.own 30 Y30,.own 130 Y129,.own 114 Y51,.own 52 Y51,.own 2 YI,.own 42 Y41,.dat YI,.dat YI,.dat YI]),(3,[.own 30 Y30,.own 130 Y129,.own 114 Y51,.own 52 Y51,.own 2 YI,.own 42 Y41,.dat YI,.dat YI,.dat YI])],rows:=[] })]
def l_fl_3 (rec:i_fl_3.den→Option (denO o_fl_3)) (u:i_fl_3.den):Option (denO o_fl_3):=
 let v5:=((u.2.1.1.2.2.2.2.2.1.length:Nat):Int)
 if (ltI u.1.2.2.2.1 v5) then
  if 0≤u.1.2.2.2.1 then
   ((u.2.1.1.2.2.2.2.2.1)[(u.1.2.2.2.1).toNat]?).bind fun y6=>
   (F_al (y6,())).bind fun r7=>
   if (u.2.1.2.2.1.2.2.2.2.2.1.length+[r7.1.1].length)*120≤140737488355328 then
    let v8:=(u.2.1.2.2.1.2.2.2.2.2.1++[r7.1.1])
    let v9:=(IntKind.i64.wrap (u.1.2.2.2.1+(1:Int)))
    rec (((),((),((),(v9,())))),((u.2.1.1,(u.2.1.2.1,((u.2.1.2.2.1.1,(u.2.1.2.2.1.2.1,(u.2.1.2.2.1.2.2.1,(u.2.1.2.2.1.2.2.2.1,(u.2.1.2.2.1.2.2.2.2.1,(v8,(u.2.1.2.2.1.2.2.2.2.2.2.1,(u.2.1.2.2.1.2.2.2.2.2.2.2.1,(u.2.1.2.2.1.2.2.2.2.2.2.2.2.1,()))))))))),()))),()))
   else none
  else none
 else
  some (.inl (((),((),())),((u.2.1.2.1,(u.2.1.2.2.1,())),())))
def L_fl_3 (x:i_fl_3.den):Option (denO o_fl_3):=Qd l_fl_3 lots x
def F_fl (x:denP P_de):FO P_de R_ah:=
 (F_ac (x.1.1,())).bind fun r1=>
 (F_ak (x.1.2.1,())).bind fun r2=>
 (L_fl_3 (((),((),((),((0:Int),())))),(((x.1.1.1,(x.1.1.2.1,(x.1.1.2.2.1,(x.1.1.2.2.2.1,(x.1.2.1,(x.1.2.2.1,(x.1.2.2.2.1,(x.1.2.2.2.2.1,(x.1.2.2.2.2.2.1,()))))))))),((([]:List (den Y30)),(([]:List (den Y129)),(([]:List (den Y51)),(([]:List (den Y51)),(([]:List (den YI)),(([]:List (den Y41)),((0:Int),((0:Int),((0:Int),()))))))))),((r1.1.1.1,(r1.1.1.2.1,(r1.1.1.2.2.1,(r1.1.1.2.2.2.1,(r2.1.1,(([]:List (den Y41)),(x.1.2.2.2.1,(x.1.2.2.2.2.1,(x.1.2.2.2.2.2.1,()))))))))),()))),()))).bind fun z10=>
 match z10 with
 | .inl x11=>
  some ((x11.2.1.2.1,()),())
 | .inr z10_=>
  none
abbrev C_fl:Con:=⟨P_de,R_ah,F_fl,false⟩
abbrev G_fl:Env:=[(69,C_ac),(70,C_ak),(71,C_al)]
theorem g_fl:Qg Tryz.prog G_fl:=(Qa s_ac (Qa s_ak (Qa s_al Qc)))
abbrev c_fl_3:Cut:=⟨i_fl_3,o_fl_3,fun x=>Qd l_fl_3 lots x⟩
theorem k_fl_3:QB Tryz.prog 37 (.loop (nav Tryz.f31 [1,1,0,1,0,0])) c_fl_3:=
  Qh (L:=[]) hT g_fl (fun _ _=>by kernel_rfl) okP _
theorem r_fl (x):QM T G_fl [(3,c_fl_3)] Tryz.f31 C_fl.ps C_fl.rs x=C_fl.F x:=by kernel_rfl
theorem s_fl:Qb Tryz.prog 31 C_fl:=fnC (L:=[(3,c_fl_3)]) hT g_fl Tryz.f31 (okS okP (okS okP (okS (okS okP (okB (okU k_fl_3))) okP))) r_fl
abbrev i_fm_8:Shp:={ slots:=[(1,.s (.dat YI)),(4,.s (.ptr 4 0)),(6,.s (.ptr 6 0)),(7,.s (.dat YI))],boxes:=[(4,[.dat YI,.own 30 Y30,.own 130 Y129,.own 114 Y51,.own 52 Y51,.own 2 YI,.own 42 Y41,.dat YI,.dat YI,.dat YI]),(6,[.dat Y24,.dat Y25,.dat Y26,.dat Y26,.own 2 YI,.own 42 Y41,.dat YI,.dat YI,.dat YI])],rows:=[] }
def l_fm_8 (rec:i_fm_8.den→Option (denO o_ff_8)) (u:i_fm_8.den):Option (denO o_ff_8):=
 if (ltI u.1.2.2.2.1 u.1.1) then
  (F_bt (u.2.1.2.1,())).bind fun r7=>
  let v8:=(IntKind.i64.wrap (u.1.2.2.2.1+(1:Int)))
  rec ((u.1.1,((),((),(v8,())))),((u.2.1.1,(r7.2.1,())),()))
 else
  some (.inl (((),((),())),((u.2.1.1,(u.2.1.2.1,())),())))
def L_fm_8 (x:i_fm_8.den):Option (denO o_ff_8):=Qd l_fm_8 lots x
def F_fm (x:denP P_ff):FO P_ff R_ff:=
 (F_fk (x.1,())).bind fun r1=>
 if (r1.1.1 !=(0:Int)) then
  some (((r1.1.1,(([]:List (den Y30)),(([]:List (den Y129)),(([]:List (den Y51)),(([]:List (den Y51)),(([]:List (den YI)),(([]:List (den Y41)),((0:Int),((0:Int),((0:Int),())))))))))),()),())
 else
  (F_e (x.2.1,(0:Int),(500:Int),())).bind fun r2=>
  if (!r2.1.1)=false then
   let v3:=(IntKind.i64.wrap (x.1.2.2.2.2.2.1+x.2.1))
   if (ltI (1000000:Int) v3) then
    some ((((3:Int),(([]:List (den Y30)),(([]:List (den Y129)),(([]:List (den Y51)),(([]:List (den Y51)),(([]:List (den YI)),(([]:List (den Y41)),((0:Int),((0:Int),((0:Int),())))))))))),()),())
   else
    (F_fl (x.1,())).bind fun r4=>
    (L_fm_8 ((x.2.1,((),((),((0:Int),())))),((((0:Int),(([]:List (den Y30)),(([]:List (den Y129)),(([]:List (den Y51)),(([]:List (den Y51)),(([]:List (den YI)),(([]:List (den Y41)),((0:Int),((0:Int),((0:Int),())))))))))),(r4.1.1,())),()))).bind fun z9=>
    match z9 with
    | .inl x10=>
     some ((((0:Int),x10.2.1.2.1),()),())
    | .inr z9_=>
     none
  else
   some ((((3:Int),(([]:List (den Y30)),(([]:List (den Y129)),(([]:List (den Y51)),(([]:List (den Y51)),(([]:List (den YI)),(([]:List (den Y41)),((0:Int),((0:Int),((0:Int),())))))))))),()),())
abbrev C_fm:Con:=⟨P_ff,R_ff,F_fm,false⟩
abbrev G_fm:Env:=[(29,C_fk),(30,C_e),(31,C_fl),(32,C_bt)]
theorem g_fm:Qg Tryz.prog G_fm:=(Qa s_fk (Qa s_e (Qa s_fl (Qa s_bt Qc))))
abbrev c_fm_8:Cut:=⟨i_fm_8,o_ff_8,fun x=>Qd l_fm_8 lots x⟩
theorem k_fm_8:QB Tryz.prog 34 (.loop (nav Tryz.f10 [1,1,1,1,0,1,0,0])) c_fm_8:=
  Qh (L:=[]) hT g_fm (fun _ _=>by kernel_rfl) okP _
theorem r_fm (x):QM T G_fm [(8,c_fm_8)] Tryz.f10 C_fm.ps C_fm.rs x=C_fm.F x:=by kernel_rfl
theorem s_fm:Qb Tryz.prog 10 C_fm:=fnC (L:=[(8,c_fm_8)]) hT g_fm Tryz.f10 (okS okP (okS okP (okS okP (okS okP (okS (okS okP (okB (okU k_fm_8))) okP))))) r_fm
abbrev P_fn:List PK:=[.val Y28,.val YI]
def F_fn (x:denP P_fn):FO P_fn R_c:=
 (F_ct (x.1,())).bind fun r1=>
 if (r1.1.1==(0:Int))=true then
  (F_cb (x.2.1,(0:Int),(1000000:Int),())).bind fun r2=>
  if (!r2.1.1) then
   some (((3:Int),()),())
  else
   some ((r1.1.1,()),())
 else
  some ((r1.1.1,()),())
abbrev C_fn:Con:=⟨P_fn,R_c,F_fn,false⟩
abbrev G_fn:Env:=[(26,C_cb),(41,C_ct)]
theorem g_fn:Qg Tryz.prog G_fn:=(Qa s_cb (Qa s_ct Qc))
theorem s_fn:Qb Tryz.prog 39 C_fn:=fnC (L:=[]) hT g_fn Tryz.f39 okP fun _=>by kernel_rfl
abbrev R_fo:List VK:=[.s (.dat Y53)]
def F_fo (x:denP P_fn):FO P_fn R_fo:=
 (F_fn (x.1,x.2.1,())).bind fun r1=>
 if (r1.1.1 !=(0:Int)) then
  some (((r1.1.1,((0:Int),(((0:Int),((0:Int),())),()))),()),())
 else
  (F_dd (x.1,x.2.1,())).bind fun r2=>
  if 0≤r2.1.1 then
   ((x.1.2.2.2.1)[(r2.1.1).toNat]?).bind fun y3=>
   some ((((0:Int),(r2.1.1,((y3.1,(r2.1.2.1,())),()))),()),())
  else none
abbrev C_fo:Con:=⟨P_fn,R_fo,F_fo,false⟩
abbrev G_fo:Env:=[(39,C_fn),(40,C_dd)]
theorem g_fo:Qg Tryz.prog G_fo:=(Qa s_fn (Qa s_dd Qc))
theorem s_fo:Qb Tryz.prog 16 C_fo:=fnC (L:=[]) hT g_fo Tryz.f16 okP fun _=>by kernel_rfl
abbrev P_fp:List PK:=[.val Y22,.val YI,.val YI]
def F_fp (x:denP P_fp):FO P_fp R_c:=
 let v1:=((x.1.length:Nat):Int)
 if (leI x.2.2.1 (1:Int)) then
  some (((0:Int),()),())
 else
  if (v1==(0:Int)) then
   let v2:=(IntKind.i64.wrap (x.2.1*(7:Int)))
   if x.2.2.1=0 then none else
   let v3:=((v2).tmod x.2.2.1)
   some ((v3,()),())
  else
   if v1=0 then none else
   let v4:=((x.2.1).tmod v1)
   if 0≤v4 then
    ((x.1)[(v4).toNat]?).bind fun y5=>
    let v6:=(IntKind.i64.wrap y5)
    if v1=0 then none else
    let v7:=(IntKind.i64.wrap ((x.2.1).tdiv v1))
    let v8:=(IntKind.i64.wrap (v7*(3:Int)))
    let v9:=(IntKind.i64.wrap (v6+v8))
    if (ltI (200:Int) x.2.2.1) then
     let v10:=(IntKind.i64.wrap (v9*(251:Int)))
     let v11:=(IntKind.i64.wrap (x.2.1+(1:Int)))
     if v1=0 then none else
     let v12:=((v11).tmod v1)
     if 0≤v12 then
      ((x.1)[(v12).toNat]?).bind fun y13=>
      let v14:=(IntKind.i64.wrap y13)
      let v15:=(IntKind.i64.wrap (v10+v14))
      if x.2.2.1=0 then none else
      let v16:=((v15).tmod x.2.2.1)
      some ((v16,()),())
     else none
    else
     if x.2.2.1=0 then none else
     let v17:=((v9).tmod x.2.2.1)
     some ((v17,()),())
   else none
abbrev C_fp:Con:=⟨P_fp,R_c,F_fp,false⟩
theorem s_fp:Qb Tryz.prog 8 C_fp:=fnC (L:=[]) hT g_a Tryz.f8 okP fun _=>by kernel_rfl
abbrev P_fq:List PK:=[.val Y30,.val Y30]
abbrev i_fq_4:Shp:={ slots:=[(0,.s (.dat Y30)),(1,.s (.dat Y30)),(5,.s (.dat YI))],boxes:=[],rows:=[] }
def l_fq_4 (rec:i_fq_4.den→Option (denO o_f_2)) (u:i_fq_4.den):Option (denO o_f_2):=
 let v5:=((u.1.1.length:Nat):Int)
 if (ltI u.1.2.2.1 v5) then
  if 0≤u.1.2.2.1 then
   ((u.1.1)[(u.1.2.2.1).toNat]?).bind fun y6=>
   if 0≤u.1.2.2.1 then
    ((u.1.2.1)[(u.1.2.2.1).toNat]?).bind fun y7=>
    if (y6 !=y7) then
     some (.inr (.inl ((false,()),((),()))))
    else
     let v8:=(IntKind.i64.wrap (u.1.2.2.1+(1:Int)))
     rec ((u.1.1,(u.1.2.1,(v8,()))),((),()))
   else none
  else none
 else
  some (.inl ((),((),())))
def L_fq_4 (x:i_fq_4.den):Option (denO o_f_2):=Qd l_fq_4 lots x
def F_fq (x:denP P_fq):FO P_fq R_a:=
 let v1:=((x.1.length:Nat):Int)
 let v2:=((x.2.1.length:Nat):Int)
 if (v1 !=v2) then
  some ((false,()),())
 else
  (L_fq_4 ((x.1,(x.2.1,((0:Int),()))),((),()))).bind fun z9=>
  match z9 with
  | .inl x10=>
   some ((true,()),())
  | .inr z9_=>
   match z9_ with
   | .inl x11=>
    some ((x11.1.1,()),())
   | .inr z9__=>
    none
abbrev C_fq:Con:=⟨P_fq,R_a,F_fq,false⟩
abbrev c_fq_4:Cut:=⟨i_fq_4,o_f_2,fun x=>Qd l_fq_4 lots x⟩
theorem k_fq_4:QB Tryz.prog 26 (.loop (nav Tryz.f14 [1,1,0,1,0,0])) c_fq_4:=
  Qh (L:=[]) hT g_a (fun _ _=>by kernel_rfl) okP _
theorem r_fq (x):QM T G_a [(4,c_fq_4)] Tryz.f14 C_fq.ps C_fq.rs x=C_fq.F x:=by kernel_rfl
theorem s_fq:Qb Tryz.prog 14 C_fq:=fnC (L:=[(4,c_fq_4)]) hT g_a Tryz.f14 (okS okP (okS okP (okS (okS okP (okB (okU k_fq_4))) okP))) r_fq
abbrev P_fr:List PK:=[.val Y28,.val YI,.val YI]
abbrev i_fr_9:Shp:={ slots:=[(2,.s (.dat YI)),(6,.s (.ptr 6 0)),(9,.s (.dat YI)),(10,.s (.dat YI)),(35,.s (.dat Y26)),(36,.s (.dat YI)),(37,.s (.dat YI))],boxes:=[(6,[.dat YI,.dat YI])],rows:=[] }
abbrev o_fr_9:List (Ex×Shp):=[(.exit 0,{ slots:=[(6,.s (.ptr 6 0)),(9,.s (.dat YI))],boxes:=[(6,[.dat YI,.dat YI])],rows:=[] })]
def l_fr_9 (rec:i_fr_9.den→Option (denO o_fr_9)) (u:i_fr_9.den):Option (denO o_fr_9):=
 if (ltI u.1.2.2.2.2.2.2.1 u.1.2.2.2.2.2.1) then
  if 0≤u.1.2.2.2.2.2.2.1 then
   ((u.1.2.2.2.2.1)[(u.1.2.2.2.2.2.2.1).toNat]?).bind fun y10=>
   if (y10.1==u.1.1) then
    let v11:=(if y10.2.1< u.1.2.2.2.1 then y10.2.1 else u.1.2.2.2.1)
    let v12:=(IntKind.i64.wrap (u.1.2.2.1+v11))
    let v13:=(if y10.2.1< u.1.2.2.2.1 then y10.2.1 else u.1.2.2.2.1)
    let v14:=(IntKind.i64.wrap (u.1.2.2.2.1-v13))
    let v15:=(IntKind.i64.wrap (u.1.2.2.2.2.2.2.1+(1:Int)))
    rec ((u.1.1,((),(v12,(v14,(u.1.2.2.2.2.1,(u.1.2.2.2.2.2.1,(v15,()))))))),((u.2.1.1,()),()))
   else
    let v16:=(if y10.2.1< u.1.2.2.2.1 then y10.2.1 else u.1.2.2.2.1)
    let v17:=(IntKind.i64.wrap (u.1.2.2.2.1-v16))
    let v18:=(IntKind.i64.wrap (u.1.2.2.2.2.2.2.1+(1:Int)))
    rec ((u.1.1,((),(u.1.2.2.1,(v17,(u.1.2.2.2.2.1,(u.1.2.2.2.2.2.1,(v18,()))))))),((u.2.1.1,()),()))
  else none
 else
  some (.inl (((),(u.1.2.2.1,())),((u.2.1.1,()),())))
def L_fr_9 (x:i_fr_9.den):Option (denO o_fr_9):=Qd l_fr_9 lots x
def F_fr (x:denP P_fr):FO P_fr R_r:=
 (F_fn (x.1,x.2.1,())).bind fun r1=>
 if (r1.1.1 !=(0:Int)) then
  some (((r1.1.1,((0:Int),())),()),())
 else
  (F_cd (x.1,x.2.2.1,())).bind fun r2=>
  if (!r2.1.1) then
   some ((((4:Int),((0:Int),())),()),())
  else
   (F_dc (x.1,(-1:Int),())).bind fun r3=>
   if r3.1.1=0 then none else
   let v4:=(IntKind.i64.wrap ((x.2.1).tdiv r3.1.1))
   (F_dc (x.1,x.2.2.1,())).bind fun r5=>
   let v6:=(IntKind.i64.wrap (v4*r5.1.1))
   if r3.1.1=0 then none else
   let v7:=((x.2.1).tmod r3.1.1)
   let v8:=((x.1.2.2.2.1.length:Nat):Int)
   (L_fr_9 ((x.2.2.1,((),(v6,(v7,(x.1.2.2.2.1,(v8,((0:Int),()))))))),((((0:Int),((0:Int),())),()),()))).bind fun z19=>
   match z19 with
   | .inl x20=>
    some ((((0:Int),(x20.1.2.1,())),()),())
   | .inr z19_=>
    none
abbrev C_fr:Con:=⟨P_fr,R_r,F_fr,false⟩
abbrev G_fr:Env:=[(35,C_cd),(39,C_fn),(44,C_dc)]
theorem g_fr:Qg Tryz.prog G_fr:=(Qa s_cd (Qa s_fn (Qa s_dc Qc)))
abbrev c_fr_9:Cut:=⟨i_fr_9,o_fr_9,fun x=>Qd l_fr_9 lots x⟩
theorem k_fr_9:QB Tryz.prog 60 (.loop (nav Tryz.f18 [1,1,1,1,1,0,1,0,0])) c_fr_9:=
  Qh (L:=[]) hT g_fr (fun _ _=>by kernel_rfl) okP _
theorem r_fr (x):QM T G_fr [(9,c_fr_9)] Tryz.f18 C_fr.ps C_fr.rs x=C_fr.F x:=by kernel_rfl
theorem s_fr:Qb Tryz.prog 18 C_fr:=fnC (L:=[(9,c_fr_9)]) hT g_fr Tryz.f18 (okS okP (okS okP (okS okP (okS okP (okS okP (okS (okS okP (okB (okU k_fr_9))) okP)))))) r_fr
def F_fs (x:denP P_de):FO P_de R_r:=
 (F_de (x.1,())).bind fun r1=>
 if (r1.1.1 !=(0:Int)) then
  some (((r1.1.1,((0:Int),())),()),())
 else
  (F_dc (x.1.1,(-1:Int),())).bind fun r2=>
  if r2.1.1=0 then none else
  let v3:=((x.1.2.2.2.2.2.1).tmod r2.1.1)
  let v4:=(IntKind.i64.wrap (r2.1.1-v3))
  if r2.1.1=0 then none else
  let v5:=((v4).tmod r2.1.1)
  some ((((0:Int),(v5,())),()),())
abbrev C_fs:Con:=⟨P_de,R_r,F_fs,false⟩
abbrev G_fs:Env:=[(17,C_de),(44,C_dc)]
theorem g_fs:Qg Tryz.prog G_fs:=(Qa s_de (Qa s_dc Qc))
theorem s_fs:Qb Tryz.prog 19 C_fs:=fnC (L:=[]) hT g_fs Tryz.f19 okP fun _=>by kernel_rfl
def F_ft (x:denP P_ac):FO P_ac R_r:=
 (F_ct (x.1,())).bind fun r1=>
 if (r1.1.1 !=(0:Int)) then
  some (((r1.1.1,((0:Int),())),()),())
 else
  (F_dc (x.1,(-1:Int),())).bind fun r2=>
  some ((((0:Int),(r2.1.1,())),()),())
abbrev C_ft:Con:=⟨P_ac,R_r,F_ft,false⟩
abbrev G_ft:Env:=[(41,C_ct),(44,C_dc)]
theorem g_ft:Qg Tryz.prog G_ft:=(Qa s_ct (Qa s_dc Qc))
theorem s_ft:Qb Tryz.prog 20 C_ft:=fnC (L:=[]) hT g_ft Tryz.f20 okP fun _=>by kernel_rfl
abbrev i_fu_13:Shp:={ slots:=[(3,.s (.ptr 3 0)),(4,.s (.dat YI)),(5,.s (.ptr 5 0)),(9,.s (.dat YI))],boxes:=[(3,[.dat Y24,.dat Y25,.dat Y26,.dat Y26,.dat Y30,.dat Y31,.dat YI,.dat YI,.dat YI]),(5,[.dat YI,.dat Y24,.dat Y25,.dat Y26,.dat Y26,.own 2 YI,.own 42 Y41,.dat YI,.dat YI,.dat YI])],rows:=[] }
abbrev o_fu_13:List (Ex×Shp):=[(.exit 0,{ slots:=[(3,.s (.ptr 3 0)),(5,.s (.ptr 5 0))],boxes:=[(3,[.dat Y24,.dat Y25,.dat Y26,.dat Y26,.dat Y30,.dat Y31,.dat YI,.dat YI,.dat YI]),(5,[.dat YI,.dat Y24,.dat Y25,.dat Y26,.dat Y26,.own 2 YI,.own 42 Y41,.dat YI,.dat YI,.dat YI])],rows:=[] }),(.ret,{ slots:=[(2,.s (.dat .bool))],boxes:=[],rows:=[] })]
def l_fu_13 (rec:i_fu_13.den→Option (denO o_fu_13)) (u:i_fu_13.den):Option (denO o_fu_13):=
 let v21:=((u.2.1.1.2.2.2.2.2.1.length:Nat):Int)
 if (ltI u.1.2.2.2.1 v21) then
  let v22:=(IntKind.i64.wrap (u.2.1.1.2.2.2.2.2.2.2.2.1+u.1.2.1))
  (F_fr ((u.2.1.1.1,(u.2.1.1.2.1,(u.2.1.1.2.2.1,(u.2.1.1.2.2.2.1,())))),v22,u.1.2.2.2.1,())).bind fun r23=>
  (F_fr ((u.2.1.1.1,(u.2.1.1.2.1,(u.2.1.1.2.2.1,(u.2.1.1.2.2.2.1,())))),u.2.1.1.2.2.2.2.2.2.2.2.1,u.1.2.2.2.1,())).bind fun r24=>
  let v25:=(IntKind.i64.wrap (r23.1.1.2.1-r24.1.1.2.1))
  if 0≤u.1.2.2.2.1∧u.1.2.2.2.1< ((u.2.1.2.1.2.2.2.2.2.2.1.length:Nat):Int) then
   ((u.2.1.2.1.2.2.2.2.2.2.1)[(u.1.2.2.2.1).toNat]?).bind fun y26=>
   if 0≤u.1.2.2.2.1 then
    ((u.2.1.1.2.2.2.2.2.1)[(u.1.2.2.2.1).toNat]?).bind fun y27=>
    let v28:=(IntKind.i64.wrap (y26.2.2.2.2.2.2.1-y27.2.2.2.2.2.2.1))
    if (ltI v25 v28)=false then
     if 0≤u.1.2.2.2.1∧u.1.2.2.2.1< ((u.2.1.2.1.2.2.2.2.2.2.1.length:Nat):Int) then
      ((u.2.1.2.1.2.2.2.2.2.2.1)[(u.1.2.2.2.1).toNat]?).bind fun y29=>
      if 0≤u.1.2.2.2.1 then
       ((u.2.1.1.2.2.2.2.2.1)[(u.1.2.2.2.1).toNat]?).bind fun y30=>
       if (ltI y29.2.2.2.2.2.2.1 y30.2.2.2.2.2.2.1) then
        some (.inr (.inl ((false,()),((),()))))
       else
        let v31:=(IntKind.i64.wrap (u.1.2.2.2.1+(1:Int)))
        rec (((),(u.1.2.1,((),(v31,())))),((u.2.1.1,(u.2.1.2.1,())),()))
      else none
     else none
    else
     some (.inr (.inl ((false,()),((),()))))
   else none
  else none
 else
  some (.inl (((),((),())),((u.2.1.1,(u.2.1.2.1,())),())))
def L_fu_13 (x:i_fu_13.den):Option (denO o_fu_13):=Qd l_fu_13 lots x
def F_fu (x:denP P_a):FO P_a R_a:=
 (F_a (x.1,())).bind fun r1=>
 if r1.1.1 then
  some ((true,()),())
 else
  (F_ca (x.1,())).bind fun r2=>
  (F_ff (r2.1.1,r2.1.2.1,())).bind fun r3=>
  if (r3.1.1.1 !=(0:Int)) then
   (F_fm (r2.1.1,r2.1.2.1,())).bind fun r4=>
   some (((r4.1.1.1==r3.1.1.1),()),())
  else
   let v5:=(IntKind.i64.wrap (r2.1.1.2.2.2.2.2.1+r2.1.2.1))
   (F_fo (r2.1.1.1,v5,())).bind fun r6=>
   let v7:=(IntKind.i64.wrap (r2.1.2.1+(1:Int)))
   (F_fp (x.1,(3:Int),v7,())).bind fun r8=>
   (F_ff (r2.1.1,r8.1.1,())).bind fun r9=>
   let v10:=(IntKind.i64.wrap (r2.1.2.1-r8.1.1))
   (F_ff (((r9.1.1.2.1,(r9.1.1.2.2.1,(r9.1.1.2.2.2.1,(r9.1.1.2.2.2.2.1,())))),(r9.1.1.2.2.2.2.2.1,(r9.1.1.2.2.2.2.2.2.1,(r9.1.1.2.2.2.2.2.2.2.1,(r9.1.1.2.2.2.2.2.2.2.2.1,(r9.1.1.2.2.2.2.2.2.2.2.2.1,())))))),v10,())).bind fun r11=>
   (F_de (((r3.1.1.2.1,(r3.1.1.2.2.1,(r3.1.1.2.2.2.1,(r3.1.1.2.2.2.2.1,())))),(r3.1.1.2.2.2.2.2.1,(r3.1.1.2.2.2.2.2.2.1,(r3.1.1.2.2.2.2.2.2.2.1,(r3.1.1.2.2.2.2.2.2.2.2.1,(r3.1.1.2.2.2.2.2.2.2.2.2.1,())))))),())).bind fun r12=>
   if (r12.1.1 !=(0:Int))=false then
    let v13:=(IntKind.i64.wrap (r2.1.1.2.2.2.2.2.1+r2.1.2.1))
    if (r3.1.1.2.2.2.2.2.2.2.2.2.1 !=v13)=false then
     if (r3.1.1.2.2.2.2.2.2.2.1 !=r6.1.1.2.1)=false then
      if (r3.1.1.2.2.2.2.2.2.2.2.1 !=r6.1.1.2.2.1.2.1)=false then
       if (r11.1.1.1 !=(0:Int))=false then
        (F_fq (r11.1.1.2.2.2.2.2.1,r3.1.1.2.2.2.2.2.1,())).bind fun r14=>
        if (!r14.1.1) then
         some ((false,()),())
        else
         (L_fu_13 (((),(r2.1.2.1,((),((0:Int),())))),(((r2.1.1.1.1,(r2.1.1.1.2.1,(r2.1.1.1.2.2.1,(r2.1.1.1.2.2.2.1,(r2.1.1.2.1,(r2.1.1.2.2.1,(r2.1.1.2.2.2.1,(r2.1.1.2.2.2.2.1,(r2.1.1.2.2.2.2.2.1,()))))))))),(r3.1.1,())),()))).bind fun z32=>
         match z32 with
         | .inl x33=>
          (F_fs (((x33.2.1.2.1.2.1,(x33.2.1.2.1.2.2.1,(x33.2.1.2.1.2.2.2.1,(x33.2.1.2.1.2.2.2.2.1,())))),(x33.2.1.2.1.2.2.2.2.2.1,(x33.2.1.2.1.2.2.2.2.2.2.1,(x33.2.1.2.1.2.2.2.2.2.2.2.1,(x33.2.1.2.1.2.2.2.2.2.2.2.2.1,(x33.2.1.2.1.2.2.2.2.2.2.2.2.2.1,())))))),())).bind fun r34=>
          (F_ft ((x33.2.1.1.1,(x33.2.1.1.2.1,(x33.2.1.1.2.2.1,(x33.2.1.1.2.2.2.1,())))),())).bind fun r35=>
          if (ltI r34.1.1.2.1 r35.1.1.2.1)=true then
           let v36:=((x33.2.1.2.1.2.2.2.2.2.2.1.length:Nat):Int)
           let v37:=((x33.2.1.1.2.2.2.2.2.1.length:Nat):Int)
           some (((v36==v37),()),())
          else
           some ((false,()),())
         | .inr z32_=>
          match z32_ with
          | .inl x38=>
           some ((x38.1.1,()),())
          | .inr z32__=>
           none
       else
        some ((false,()),())
      else
       some ((false,()),())
     else
      some ((false,()),())
    else
     some ((false,()),())
   else
    some ((false,()),())
abbrev C_fu:Con:=⟨P_a,R_a,F_fu,false⟩
abbrev G_fu:Env:=[(6,C_a),(8,C_fp),(9,C_ff),(10,C_fm),(14,C_fq),(15,C_ca),(16,C_fo),(17,C_de),(18,C_fr),(19,C_fs),(20,C_ft)]
theorem g_fu:Qg Tryz.prog G_fu:=(Qa s_a (Qa s_fp (Qa s_ff (Qa s_fm (Qa s_fq (Qa s_ca (Qa s_fo (Qa s_de (Qa s_fr (Qa s_fs (Qa s_ft Qc)))))))))))
abbrev c_fu_13:Cut:=⟨i_fu_13,o_fu_13,fun x=>Qd l_fu_13 lots x⟩
theorem k_fu_13:QB Tryz.prog 171 (.loop (nav Tryz.f4 [1,1,1,1,1,1,1,1,1,0,1,0,0])) c_fu_13:=
  Qh (L:=[]) hT g_fu (fun _ _=>by kernel_rfl) okP _
theorem r_fu (x):QM T G_fu [(13,c_fu_13)] Tryz.f4 C_fu.ps C_fu.rs x=C_fu.F x:=by kernel_rfl
theorem s_fu:Qb Tryz.prog 4 C_fu:=fnC (L:=[(13,c_fu_13)]) hT g_fu Tryz.f4 (okS okP (okS okP (okS okP (okS okP (okS okP (okS okP (okS okP (okS okP (okS okP (okS (okS okP (okB (okU k_fu_13))) okP)))))))))) r_fu
theorem q_fu:QeS Tryz.prog 4 C_fu:=
  Qva (L:=[(13,c_fu_13)]) hT g_fu Tryz.f4 (by kernel_rfl) (by kernel_rfl) (okS okP (okS okP (okS okP (okS okP (okS okP (okS okP (okS okP (okS okP (okS okP (okS (okS okP (okB (okU k_fu_13))) okP)))))))))) r_fu
end Go.Proofs.YticbdcmkcghijaaGreatDoor
