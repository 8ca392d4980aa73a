/- The functions of the laws, each as a plain function of data (F), and that the program's text does what F says. Printed by a program (wip/tools/gen.py). -/
import Derived.Test.YtkkljegcnnfanaaGreatDoorGa2
set_option linter.unusedVariables false
set_option linter.unusedSimpArgs false
namespace Go.Proofs.YtkkljegcnnfanaaGreatDoor
open Go Go.RowKit S Go.Proofs
set_option maxRecDepth 100000
def F_cy_1 (x:denP P_cw_1):FO P_cw_1 R_a:=
 (F_cw_1 (x.1,(),())).bind fun r1=>
 some (((leI (0:Int) r1.1.1),()),())
abbrev C_cy_1:Con:=⟨P_cw_1,R_a,F_cy_1,false⟩
abbrev G_cy_1:Env:=[(215,C_cw_1)]
theorem g_cy_1:Qg Tryz.prog G_cy_1:=(Qa s_cw_1 Qd)
theorem s_cy_1:Qb Tryz.prog 165 C_cy_1:=fnC (L:=[]) hT g_cy_1 Tryz.f165 okP fun _=>by kernel_rfl
def F_cv (x:denP P_ae):FO P_ae R_a:=
 (F_cy_1 (x.1,(),())).bind fun r1=>
 some (((!r1.1.1),()),())
abbrev C_cv:Con:=⟨P_ae,R_a,F_cv,false⟩
abbrev G_cv:Env:=[(165,C_cy_1)]
theorem g_cv:Qg Tryz.prog G_cv:=(Qa s_cy_1 Qd)
theorem s_cv:Qb Tryz.prog 107 C_cv:=fnC (L:=[]) hT g_cv Tryz.f107 okP fun _=>by kernel_rfl
def F_cz (x:denP P_ae):FO P_ae R_c:=
 let v1:=((x.1.length:Nat):Int)
 if (v1==(0:Int))=false then
  let v2:=((x.1.length:Nat):Int)
  if (ltI (192:Int) v2)=false then
   let v3:=((x.1.length:Nat):Int)
   let v4:=((v3).tmod (8:Int))
   if (v4 !=(0:Int)) then
    some (((1:Int),()),())
   else
    (F_cv (x.1,())).bind fun r5=>
    if (!r5.1.1) then
     some (((3:Int),()),())
    else
     some (((0:Int),()),())
  else
   some (((1:Int),()),())
 else
  some (((1:Int),()),())
abbrev C_cz:Con:=⟨P_ae,R_c,F_cz,false⟩
abbrev G_cz:Env:=[(107,C_cv)]
theorem g_cz:Qg Tryz.prog G_cz:=(Qa s_cv Qd)
theorem s_cz:Qb Tryz.prog 41 C_cz:=fnC (L:=[]) hT g_cz Tryz.f41 okP fun _=>by kernel_rfl
def F_da (x:denP P_ae):FO P_ae R_a:=
 (F_cz (x.1,())).bind fun r1=>
 if (r1.1.1==(0:Int))=true then
  let v2:=((x.1.length:Nat):Int)
  some (((v2==(192:Int)),()),())
 else
  some ((false,()),())
abbrev C_da:Con:=⟨P_ae,R_a,F_da,false⟩
abbrev G_da:Env:=[(41,C_cz)]
theorem g_da:Qg Tryz.prog G_da:=(Qa s_cz Qd)
theorem s_da:Qb Tryz.prog 48 C_da:=fnC (L:=[]) hT g_da Tryz.f48 okP fun _=>by kernel_rfl
def F_db (x:denP P_al):FO P_al R_c:=
 let v1:=((x.1.1.length:Nat):Int)
 if (v1 !=(16:Int))=false then
  let v2:=((x.1.2.2.1.length:Nat):Int)
  if (v2 !=(11:Int))=false then
   ((x.1.1)[((0:Int)).toNat]?).bind fun y3=>
   if (y3 !=(0:Int)) then
    some (((1:Int),()),())
   else
    (F_cv (x.1.1,())).bind fun r4=>
    if (!r4.1.1)=false then
     (F_cu (x.1.2.1,())).bind fun r5=>
     if (!r5.1.1)=false then
      (F_cv (x.1.2.2.1,())).bind fun r6=>
      if (!r6.1.1)=false then
       (F_cv (x.1.2.2.2.2.2.2.2.1,())).bind fun r7=>
       if (!r7.1.1)=false then
        (F_cv (x.1.2.2.2.2.2.2.2.2.1,())).bind fun r8=>
        if (!r8.1.1) then
         some (((3:Int),()),())
        else
         let v9:=((x.1.2.2.2.2.2.2.2.1.length:Nat):Int)
         if (ltI (40:Int) v9)=false then
          let v10:=((x.1.2.2.2.2.2.2.2.2.1.length:Nat):Int)
          if (ltI (40:Int) v10) then
           some (((2:Int),()),())
          else
           (F_cb (x.1.2.2.2.2.2.2.1,(0:Int),(1000000000:Int),())).bind fun r11=>
           if (!r11.1.1) then
            some (((3:Int),()),())
           else
            ((x.1.2.2.1)[((0:Int)).toNat]?).bind fun y12=>
            if (ltI (3:Int) y12)=false then
             ((x.1.2.2.1)[((7:Int)).toNat]?).bind fun y13=>
             if (ltI (7:Int) y13)=false then
              ((x.1.2.2.1)[((10:Int)).toNat]?).bind fun y14=>
              if (ltI (8:Int) y14)=false then
               ((x.1.2.2.1)[((6:Int)).toNat]?).bind fun y15=>
               if (y15 !=(0:Int))=false then
                ((x.1.2.2.1)[((8:Int)).toNat]?).bind fun y16=>
                if (y16 !=(0:Int)) then
                 some (((1:Int),()),())
                else
                 some (((0:Int),()),())
               else
                some (((1:Int),()),())
              else
               some (((1:Int),()),())
             else
              some (((1:Int),()),())
            else
             some (((1:Int),()),())
         else
          some (((2:Int),()),())
       else
        some (((3:Int),()),())
      else
       some (((3:Int),()),())
     else
      some (((3:Int),()),())
    else
     some (((3:Int),()),())
  else
   some (((1:Int),()),())
 else
  some (((1:Int),()),())
abbrev C_db:Con:=⟨P_al,R_c,F_db,false⟩
abbrev G_db:Env:=[(50,C_cb),(107,C_cv),(113,C_cu)]
theorem g_db:Qg Tryz.prog G_db:=(Qa s_cb (Qa s_cv (Qa s_cu Qd)))
theorem s_db:Qb Tryz.prog 49 C_db:=fnC (L:=[]) hT g_db Tryz.f49 okP fun _=>by kernel_rfl
abbrev i_dc_3:Shp:={ slots:=[(1,.s (.dat YI)),(5,.s (.dat YI)),(11,.s (.dat Y26)),(12,.s (.dat YI)),(13,.s (.dat YI))],boxes:=[],rows:=[] }
abbrev o_dc_3:List (Ex×Shp):=[(.exit 0,{ slots:=[(5,.s (.dat YI))],boxes:=[],rows:=[] })]
def l_dc_3 (rec:i_dc_3.den→Option (denO o_dc_3)) (u:i_dc_3.den):Option (denO o_dc_3):=
 if (ltI u.1.2.2.2.2.1 u.1.2.2.2.1) then
  if 0≤u.1.2.2.2.2.1 then
   ((u.1.2.2.1)[(u.1.2.2.2.2.1).toNat]?).bind fun y3=>
   if (ltI u.1.1 (0:Int))=false then
    if (y3.1==u.1.1) then
     let v4:=(IntKind.i64.wrap (u.1.2.1+y3.2.1))
     let v5:=(IntKind.i64.wrap (u.1.2.2.2.2.1+(1:Int)))
     rec ((u.1.1,(v4,(u.1.2.2.1,(u.1.2.2.2.1,(v5,()))))),((),()))
    else
     let v6:=(IntKind.i64.wrap (u.1.2.2.2.2.1+(1:Int)))
     rec ((u.1.1,(u.1.2.1,(u.1.2.2.1,(u.1.2.2.2.1,(v6,()))))),((),()))
   else
    let v7:=(IntKind.i64.wrap (u.1.2.1+y3.2.1))
    let v8:=(IntKind.i64.wrap (u.1.2.2.2.2.1+(1:Int)))
    rec ((u.1.1,(v7,(u.1.2.2.1,(u.1.2.2.2.1,(v8,()))))),((),()))
  else none
 else
  some (.inl ((u.1.2.1,()),((),())))
def L_dc_3 (x:i_dc_3.den):Option (denO o_dc_3):=Qc l_dc_3 lots x
def F_dc (x:denP P_h):FO P_h R_c:=
 let v1:=((x.1.2.2.2.1.length:Nat):Int)
 (L_dc_3 ((x.2.1,((0:Int),(x.1.2.2.2.1,(v1,((0:Int),()))))),((),()))).bind fun z9=>
 match z9 with
 | .inl x10=>
  some ((x10.1.1,()),())
 | .inr z9_=>
  none
abbrev C_dc:Con:=⟨P_h,R_c,F_dc,false⟩
abbrev c_dc_3:Cut:=⟨i_dc_3,o_dc_3,fun x=>Qc l_dc_3 lots x⟩
theorem k_dc_3:Qu Tryz.prog 31 (.loop (nav Tryz.f80 [1,1,0,1,0,0])) c_dc_3:=
  Qi (L:=[]) hT g_a (fun _ _=>by kernel_rfl) okP _
theorem r_dc (x):QK T G_a [(3,c_dc_3)] Tryz.f80 C_dc.ps C_dc.rs x=C_dc.F x:=by kernel_rfl
theorem s_dc:Qb Tryz.prog 80 C_dc:=fnC (L:=[(3,c_dc_3)]) hT g_a Tryz.f80 (okS okP (okS okP (okS (okS okP (okB (okU k_dc_3))) okP))) r_dc
abbrev i_dd_3:Shp:={ slots:=[(0,.s (.pd Y28)),(1,.s (.dat YI)),(6,.s (.dat YI))],boxes:=[],rows:=[] }
abbrev o_dd_3:List (Ex×Shp):=[(.exit 0,{ slots:=[(0,.s (.pd Y28)),(1,.s (.dat YI)),(6,.s (.dat YI))],boxes:=[],rows:=[] })]
def l_dd_3 (rec:i_dd_3.den→Option (denO o_dd_3)) (u:i_dd_3.den):Option (denO o_dd_3):=
 if 0≤u.1.2.2.1 then
  ((u.1.1.2.2.2.1)[(u.1.2.2.1).toNat]?).bind fun y5=>
  if (leI y5.2.1 u.1.2.1) then
   if 0≤u.1.2.2.1 then
    ((u.1.1.2.2.2.1)[(u.1.2.2.1).toNat]?).bind fun y6=>
    let v7:=(IntKind.i64.wrap (u.1.2.1-y6.2.1))
    let v8:=(IntKind.i64.wrap (u.1.2.2.1+(1:Int)))
    rec ((u.1.1,(v7,(v8,()))),((),()))
   else none
  else
   some (.inl ((u.1.1,(u.1.2.1,(u.1.2.2.1,()))),((),())))
 else none
def L_dd_3 (x:i_dd_3.den):Option (denO o_dd_3):=Qc l_dd_3 lots x
def F_dd (x:denP P_h):FO P_h R_aw:=
 (F_dc (x.1,(-1:Int),())).bind fun r1=>
 if r1.1.1=0 then none else
 let v2:=((x.2.1).tmod r1.1.1)
 (L_dd_3 ((x.1,(v2,((0:Int),()))),((),()))).bind fun z9=>
 match z9 with
 | .inl x10=>
  if 0≤x10.1.2.2.1 then
   ((x10.1.1.2.2.2.1)[(x10.1.2.2.1).toNat]?).bind fun y11=>
   let v12:=(IntKind.i64.wrap (y11.2.1-x10.1.2.1))
   some ((x10.1.2.2.1,v12,()),())
  else none
 | .inr z9_=>
  none
abbrev C_dd:Con:=⟨P_h,R_aw,F_dd,false⟩
abbrev G_dd:Env:=[(80,C_dc)]
theorem g_dd:Qg Tryz.prog G_dd:=(Qa s_dc Qd)
abbrev c_dd_3:Cut:=⟨i_dd_3,o_dd_3,fun x=>Qc l_dd_3 lots x⟩
theorem k_dd_3:Qu Tryz.prog 44 (.loop (nav Tryz.f51 [1,1,1,0,0,0])) c_dd_3:=
  Qi (L:=[]) hT g_dd (fun _ _=>by kernel_rfl) okP _
theorem r_dd (x):QK T G_dd [(3,c_dd_3)] Tryz.f51 C_dd.ps C_dd.rs x=C_dd.F x:=by kernel_rfl
theorem s_dd:Qb Tryz.prog 51 C_dd:=fnC (L:=[(3,c_dd_3)]) hT g_dd Tryz.f51 (okS okP (okS okP (okS okP (okS (okB (okU k_dd_3)) okP)))) r_dd
abbrev P_de:List PK:=[.val Y32]
abbrev i_de_7:Shp:={ slots:=[(1,.s (.ptr 1 0)),(30,.s (.dat Y31)),(31,.s (.dat YI)),(32,.s (.dat YI))],boxes:=[(1,[.dat Y24,.dat Y25,.dat Y26,.dat Y26,.dat Y30,.dat Y31,.dat YI,.dat YI,.dat YI])],rows:=[] }
abbrev o_de_7:List (Ex×Shp):=[(.exit 0,{ slots:=[(1,.s (.ptr 1 0))],boxes:=[(1,[.dat Y24,.dat Y25,.dat Y26,.dat Y26,.dat Y30,.dat Y31,.dat YI,.dat YI,.dat YI])],rows:=[] }),(.ret,{ slots:=[(2,.s (.dat YI))],boxes:=[],rows:=[] })]
def l_de_7 (rec:i_de_7.den→Option (denO o_de_7)) (u:i_de_7.den):Option (denO o_de_7):=
 if (ltI u.1.2.2.2.1 u.1.2.2.1) then
  if 0≤u.1.2.2.2.1 then
   ((u.1.2.1)[(u.1.2.2.2.1).toNat]?).bind fun y8=>
   (F_db (y8,())).bind fun r9=>
   if (r9.1.1 !=(0:Int)) then
    some (.inr (.inl ((r9.1.1,()),((),()))))
   else
    let v10:=(IntKind.i64.wrap (u.1.2.2.2.1+(1:Int)))
    rec (((),(u.1.2.1,(u.1.2.2.1,(v10,())))),((u.2.1.1,()),()))
  else none
 else
  some (.inl (((),()),((u.2.1.1,()),())))
def L_de_7 (x:i_de_7.den):Option (denO o_de_7):=Qc l_de_7 lots x
def F_de (x:denP P_de):FO P_de R_c:=
 (F_ct (x.1.1,())).bind fun r1=>
 if (r1.1.1 !=(0:Int)) then
  some ((r1.1.1,()),())
 else
  (F_da (x.1.2.1,())).bind fun r2=>
  if (!r2.1.1)=false then
   let v3:=((x.1.2.2.1.length:Nat):Int)
   let v4:=((x.1.1.1.length:Nat):Int)
   if (v3 !=v4) then
    some (((1:Int),()),())
   else
    let v5:=((x.1.2.2.1.length:Nat):Int)
    (L_de_7 (((),(x.1.2.2.1,(v5,((0:Int),())))),(((x.1.1.1,(x.1.1.2.1,(x.1.1.2.2.1,(x.1.1.2.2.2.1,(x.1.2.1,(x.1.2.2.1,(x.1.2.2.2.1,(x.1.2.2.2.2.1,(x.1.2.2.2.2.2.1,()))))))))),()),()))).bind fun z11=>
    match z11 with
    | .inl x12=>
     (F_cb (x12.2.1.1.2.2.2.2.2.2.2.2.1,(0:Int),(1000000:Int),())).bind fun r13=>
     if (!r13.1.1) then
      some (((3:Int),()),())
     else
      (F_dd ((x12.2.1.1.1,(x12.2.1.1.2.1,(x12.2.1.1.2.2.1,(x12.2.1.1.2.2.2.1,())))),x12.2.1.1.2.2.2.2.2.2.2.2.1,())).bind fun r14=>
      if (x12.2.1.1.2.2.2.2.2.2.1 !=r14.1.1)=false then
       if (x12.2.1.1.2.2.2.2.2.2.2.1 !=r14.1.2.1) then
        some (((1:Int),()),())
       else
        some (((0:Int),()),())
      else
       some (((1:Int),()),())
    | .inr z11_=>
     match z11_ with
     | .inl x15=>
      some ((x15.1.1,()),())
     | .inr z11__=>
      none
  else
   some (((1:Int),()),())
abbrev C_de:Con:=⟨P_de,R_c,F_de,false⟩
abbrev G_de:Env:=[(47,C_ct),(48,C_da),(49,C_db),(50,C_cb),(51,C_dd)]
theorem g_de:Qg Tryz.prog G_de:=(Qa s_ct (Qa s_da (Qa s_db (Qa s_cb (Qa s_dd Qd)))))
abbrev c_de_7:Cut:=⟨i_de_7,o_de_7,fun x=>Qc l_de_7 lots x⟩
theorem k_de_7:Qu Tryz.prog 63 (.loop (nav Tryz.f15 [1,1,1,0,1,0,0])) c_de_7:=
  Qi (L:=[]) hT g_de (fun _ _=>by kernel_rfl) okP _
theorem r_de (x):QK T G_de [(7,c_de_7)] Tryz.f15 C_de.ps C_de.rs x=C_de.F x:=by kernel_rfl
theorem s_de:Qb Tryz.prog 15 C_de:=fnC (L:=[(7,c_de_7)]) hT g_de Tryz.f15 (okS okP (okS okP (okS okP (okS (okS okP (okB (okU k_de_7))) okP)))) r_de
abbrev P_df:List PK:=[.val Y24]
def F_df (x:denP P_df):FO P_df R_v:=
  if (([]:List (den Y30)).length+x.1.length)*24≤140737488355328 then some (([]++x.1,()),()) else none
abbrev C_df:Con:=⟨P_df,R_v,F_df,false⟩
theorem s_df:Qb Tryz.prog 135 C_df:=
  Qdf hT (fn:=Tryz.f135) (cn:=C_df) (c0:=nav Tryz.f135 [0]) (ca:=nav Tryz.f135 [1,0,1,0]) (cb:=nav Tryz.f135 [1,1]) (id:=1) (d:=4) (nm:=1032000) (o1:=QeR Tryz.f135 [1,0,0] 0) (o2:=QeR Tryz.f135 [1,0,0] 1)
    (t:=24) (t':=24) (x:= .tmp 3) (r:=⟨Y24,[],30,24,3000030⟩) (u:=Y30) (by kernel_rfl) (by kernel_rfl) (by kernel_rfl) ⟨by kernel_rfl,by kernel_rfl⟩ (fun y=>by kernel_rfl) (by kernel_rfl) (by kernel_rfl) (by kernel_rfl) (by kernel_rfl) (by kernel_rfl) rfl
    (fun y=>(st0 Tryz.f135 P_df y).set 2 (.s .nls)) (fun y=>((st0 Tryz.f135 P_df y).set 2 (.s .nls)).set 3 (.s (.d (.slice Y30) y.1))) (fun y=>y.1)
    (fun y=>by kernel_rfl) (fun y=>by kernel_rfl) (fun y=>by kernel_rfl) (fun y=>Nat.le_of_ble_eq_true (by kernel_rfl)) (fun y=>by kernel_rfl) (by kernel_rfl) (by kernel_rfl) (by kernel_rfl) (fun y=>by kernel_rfl)
    (fun y h=>by obtain ⟨l,v⟩:=y; have h:l=[]:=h; subst h; show run _ _ _ _ _ _=F_df ([],v); kernel_rfl) (fun y=>by kernel_rfl)
def F_dg (x:denP P_ae):FO P_ae R_u:=
  if (([]:List (den YI)).length+x.1.length)*8≤140737488355328 then some (([]++x.1,()),()) else none
abbrev C_dg:Con:=⟨P_ae,R_u,F_dg,false⟩
theorem s_dg:Qb Tryz.prog 87 C_dg:=
  Qdf hT (fn:=Tryz.f87) (cn:=C_dg) (c0:=nav Tryz.f87 [0]) (ca:=nav Tryz.f87 [1,0,1,0]) (cb:=nav Tryz.f87 [1,1]) (id:=1) (d:=4) (nm:=1032000) (o1:=QeR Tryz.f87 [1,0,0] 0) (o2:=QeR Tryz.f87 [1,0,0] 1)
    (t:=30) (t':=30) (x:= .tmp 3) (r:=⟨Y30,[],2,24,0⟩) (u:=YI) (by kernel_rfl) (by kernel_rfl) (by kernel_rfl) ⟨by kernel_rfl,by kernel_rfl⟩ (fun y=>by kernel_rfl) (by kernel_rfl) (by kernel_rfl) (by kernel_rfl) (by kernel_rfl) (by kernel_rfl) rfl
    (fun y=>(st0 Tryz.f87 P_ae y).set 2 (.s .nls)) (fun y=>((st0 Tryz.f87 P_ae y).set 2 (.s .nls)).set 3 (.s (.d (.slice YI) y.1))) (fun y=>y.1)
    (fun y=>by kernel_rfl) (fun y=>by kernel_rfl) (fun y=>by kernel_rfl) (fun y=>Nat.le_of_ble_eq_true (by kernel_rfl)) (fun y=>by kernel_rfl) (by kernel_rfl) (by kernel_rfl) (by kernel_rfl) (fun y=>by kernel_rfl)
    (fun y h=>by obtain ⟨l,v⟩:=y; have h:l=[]:=h; subst h; show run _ _ _ _ _ _=F_dg ([],v); kernel_rfl) (fun y=>by kernel_rfl)
abbrev P_dh:List PK:=[.val Y25]
abbrev R_dh:List VK:=[.s (.own 123 Y122)]
def F_dh (x:denP P_dh):FO P_dh R_dh:=
  if (([]:List (den Y122)).length+x.1.length)*40≤140737488355328 then some (([]++x.1,()),()) else none
abbrev C_dh:Con:=⟨P_dh,R_dh,F_dh,false⟩
theorem s_dh:Qb Tryz.prog 136 C_dh:=
  Qdf hT (fn:=Tryz.f136) (cn:=C_dh) (c0:=nav Tryz.f136 [0]) (ca:=nav Tryz.f136 [1,0,1,0]) (cb:=nav Tryz.f136 [1,1]) (id:=1) (d:=4) (nm:=1032000) (o1:=QeR Tryz.f136 [1,0,0] 0) (o2:=QeR Tryz.f136 [1,0,0] 1)
    (t:=25) (t':=25) (x:= .tmp 3) (r:=⟨Y25,[],123,24,0⟩) (u:=Y122) (by kernel_rfl) (by kernel_rfl) (by kernel_rfl) ⟨by kernel_rfl,by kernel_rfl⟩ (fun y=>by kernel_rfl) (by kernel_rfl) (by kernel_rfl) (by kernel_rfl) (by kernel_rfl) (by kernel_rfl) rfl
    (fun y=>(st0 Tryz.f136 P_dh y).set 2 (.s .nls)) (fun y=>((st0 Tryz.f136 P_dh y).set 2 (.s .nls)).set 3 (.s (.d (.slice Y122) y.1))) (fun y=>y.1)
    (fun y=>by kernel_rfl) (fun y=>by kernel_rfl) (fun y=>by kernel_rfl) (fun y=>Nat.le_of_ble_eq_true (by kernel_rfl)) (fun y=>by kernel_rfl) (by kernel_rfl) (by kernel_rfl) (by kernel_rfl) (fun y=>by kernel_rfl)
    (fun y h=>by obtain ⟨l,v⟩:=y; have h:l=[]:=h; subst h; show run _ _ _ _ _ _=F_dh ([],v); kernel_rfl) (fun y=>by kernel_rfl)
abbrev P_di:List PK:=[.val Y26]
abbrev R_di:List VK:=[.s (.own 53 Y38)]
def F_di (x:denP P_di):FO P_di R_di:=
  if (([]:List (den Y38)).length+x.1.length)*16≤140737488355328 then some (([]++x.1,()),()) else none
abbrev C_di:Con:=⟨P_di,R_di,F_di,false⟩
theorem s_di:Qb Tryz.prog 137 C_di:=
  Qdf hT (fn:=Tryz.f137) (cn:=C_di) (c0:=nav Tryz.f137 [0]) (ca:=nav Tryz.f137 [1,0,1,0]) (cb:=nav Tryz.f137 [1,1]) (id:=1) (d:=4) (nm:=1032000) (o1:=QeR Tryz.f137 [1,0,0] 0) (o2:=QeR Tryz.f137 [1,0,0] 1)
    (t:=26) (t':=26) (x:= .tmp 3) (r:=⟨Y26,[],53,24,0⟩) (u:=Y38) (by kernel_rfl) (by kernel_rfl) (by kernel_rfl) ⟨by kernel_rfl,by kernel_rfl⟩ (fun y=>by kernel_rfl) (by kernel_rfl) (by kernel_rfl) (by kernel_rfl) (by kernel_rfl) (by kernel_rfl) rfl
    (fun y=>(st0 Tryz.f137 P_di y).set 2 (.s .nls)) (fun y=>((st0 Tryz.f137 P_di y).set 2 (.s .nls)).set 3 (.s (.d (.slice Y38) y.1))) (fun y=>y.1)
    (fun y=>by kernel_rfl) (fun y=>by kernel_rfl) (fun y=>by kernel_rfl) (fun y=>Nat.le_of_ble_eq_true (by kernel_rfl)) (fun y=>by kernel_rfl) (by kernel_rfl) (by kernel_rfl) (by kernel_rfl) (fun y=>by kernel_rfl)
    (fun y h=>by obtain ⟨l,v⟩:=y; have h:l=[]:=h; subst h; show run _ _ _ _ _ _=F_di ([],v); kernel_rfl) (fun y=>by kernel_rfl)
abbrev R_dj:List VK:=[.s (.own 39 Y38)]
def F_dj (x:denP P_di):FO P_di R_dj:=
  if (([]:List (den Y38)).length+x.1.length)*16≤140737488355328 then some (([]++x.1,()),()) else none
abbrev C_dj:Con:=⟨P_di,R_dj,F_dj,false⟩
theorem s_dj:Qb Tryz.prog 138 C_dj:=
  Qdf hT (fn:=Tryz.f138) (cn:=C_dj) (c0:=nav Tryz.f138 [0]) (ca:=nav Tryz.f138 [1,0,1,0]) (cb:=nav Tryz.f138 [1,1]) (id:=1) (d:=4) (nm:=1032000) (o1:=QeR Tryz.f138 [1,0,0] 0) (o2:=QeR Tryz.f138 [1,0,0] 1)
    (t:=27) (t':=27) (x:= .tmp 3) (r:=⟨Y26,[],39,24,0⟩) (u:=Y38) (by kernel_rfl) (by kernel_rfl) (by kernel_rfl) ⟨by kernel_rfl,by kernel_rfl⟩ (fun y=>by kernel_rfl) (by kernel_rfl) (by kernel_rfl) (by kernel_rfl) (by kernel_rfl) (by kernel_rfl) rfl
    (fun y=>(st0 Tryz.f138 P_di y).set 2 (.s .nls)) (fun y=>((st0 Tryz.f138 P_di y).set 2 (.s .nls)).set 3 (.s (.d (.slice Y38) y.1))) (fun y=>y.1)
    (fun y=>by kernel_rfl) (fun y=>by kernel_rfl) (fun y=>by kernel_rfl) (fun y=>Nat.le_of_ble_eq_true (by kernel_rfl)) (fun y=>by kernel_rfl) (by kernel_rfl) (by kernel_rfl) (by kernel_rfl) (fun y=>by kernel_rfl)
    (fun y h=>by obtain ⟨l,v⟩:=y; have h:l=[]:=h; subst h; show run _ _ _ _ _ _=F_dj ([],v); kernel_rfl) (fun y=>by kernel_rfl)
abbrev i_dk_3:Shp:={ slots:=[(1,.s (.ptr 1 0)),(2,.s (.ptr 2 0)),(10,.s (.dat YI)),(11,.s (.dat YI))],boxes:=[(1,[.own 30 Y30,.dat Y25,.dat Y26,.dat Y26]),(2,[.own 30 Y30,.own 123 Y122,.own 53 Y38,.own 39 Y38])],rows:=[] }
abbrev o_dk_3:List (Ex×Shp):=[(.exit 0,{ slots:=[(1,.s (.ptr 1 0)),(2,.s (.ptr 2 0))],boxes:=[(1,[.own 30 Y30,.dat Y25,.dat Y26,.dat Y26]),(2,[.own 30 Y30,.own 123 Y122,.own 53 Y38,.own 39 Y38])],rows:=[] })]
def l_dk_3 (rec:i_dk_3.den→Option (denO o_dk_3)) (u:i_dk_3.den):Option (denO o_dk_3):=
 if (ltI u.1.2.2.2.1 u.1.2.2.1) then
  if 0≤u.1.2.2.2.1∧u.1.2.2.2.1< ((u.2.1.1.1.length:Nat):Int) then
   ((u.2.1.1.1)[(u.1.2.2.2.1).toNat]?).bind fun y6=>
   (F_dg (y6,())).bind fun r7=>
   if 0≤u.1.2.2.2.1∧u.1.2.2.2.1< ((u.2.1.1.1.length:Nat):Int) then
    ((u.2.1.1.1)[(u.1.2.2.2.1).toNat]?).bind fun y8=>
    let v9:=(u.2.1.1.1.set (u.1.2.2.2.1).toNat r7.1.1)
    let v10:=(IntKind.i64.wrap (u.1.2.2.2.1+(1:Int)))
    rec (((),((),(u.1.2.2.1,(v10,())))),(((v9,(u.2.1.1.2.1,(u.2.1.1.2.2.1,(u.2.1.1.2.2.2.1,())))),(u.2.1.2.1,())),()))
   else none
  else none
 else
  some (.inl (((),((),())),((u.2.1.1,(u.2.1.2.1,())),())))
def L_dk_3 (x:i_dk_3.den):Option (denO o_dk_3):=Qc l_dk_3 lots x
def F_dk (x:denP P_ac):FO P_ac R_ac:=
 (F_df (x.1.1,())).bind fun r1=>
 let v2:=((r1.1.1.length:Nat):Int)
 (L_dk_3 (((),((),(v2,((0:Int),())))),(((r1.1.1,(x.1.2.1,(x.1.2.2.1,(x.1.2.2.2.1,())))),((([]:List (den Y30)),(([]:List (den Y122)),(([]:List (den Y38)),(([]:List (den Y38)),())))),())),()))).bind fun z11=>
 match z11 with
 | .inl x12=>
  (F_dh (x12.2.1.1.2.1,())).bind fun r13=>
  (F_di (x12.2.1.1.2.2.1,())).bind fun r14=>
  (F_dj (x12.2.1.1.2.2.2.1,())).bind fun r15=>
  some (((x12.2.1.1.1,(r13.1.1,(r14.1.1,(r15.1.1,())))),()),())
 | .inr z11_=>
  none
abbrev C_dk:Con:=⟨P_ac,R_ac,F_dk,false⟩
abbrev G_dk:Env:=[(87,C_dg),(135,C_df),(136,C_dh),(137,C_di),(138,C_dj)]
theorem g_dk:Qg Tryz.prog G_dk:=(Qa s_dg (Qa s_df (Qa s_dh (Qa s_di (Qa s_dj Qd)))))
abbrev c_dk_3:Cut:=⟨i_dk_3,o_dk_3,fun x=>Qc l_dk_3 lots x⟩
theorem k_dk_3:Qu Tryz.prog 38 (.loop (nav Tryz.f86 [1,1,0,1,0,0])) c_dk_3:=
  Qi (L:=[]) hT g_dk (fun _ _=>by kernel_rfl) okP _
theorem r_dk (x):QK T G_dk [(3,c_dk_3)] Tryz.f86 C_dk.ps C_dk.rs x=C_dk.F x:=by kernel_rfl
theorem s_dk:Qb Tryz.prog 86 C_dk:=fnC (L:=[(3,c_dk_3)]) hT g_dk Tryz.f86 (okS okP (okS okP (okS (okS okP (okB (okU k_dk_3))) okP))) r_dk
abbrev P_dl:List PK:=[.val Y31]
abbrev R_dl:List VK:=[.s (.own 46 Y45)]
def F_dl (x:denP P_dl):FO P_dl R_dl:=
  if (([]:List (den Y45)).length+x.1.length)*120≤140737488355328 then some (([]++x.1,()),()) else none
abbrev C_dl:Con:=⟨P_dl,R_dl,F_dl,false⟩
theorem s_dl:Qb Tryz.prog 88 C_dl:=
  Qdf hT (fn:=Tryz.f88) (cn:=C_dl) (c0:=nav Tryz.f88 [0]) (ca:=nav Tryz.f88 [1,0,1,0]) (cb:=nav Tryz.f88 [1,1]) (id:=1) (d:=4) (nm:=1032000) (o1:=QeR Tryz.f88 [1,0,0] 0) (o2:=QeR Tryz.f88 [1,0,0] 1)
    (t:=31) (t':=31) (x:= .tmp 3) (r:=⟨Y31,[],46,24,3000046⟩) (u:=Y45) (by kernel_rfl) (by kernel_rfl) (by kernel_rfl) ⟨by kernel_rfl,by kernel_rfl⟩ (fun y=>by kernel_rfl) (by kernel_rfl) (by kernel_rfl) (by kernel_rfl) (by kernel_rfl) (by kernel_rfl) rfl
    (fun y=>(st0 Tryz.f88 P_dl y).set 2 (.s .nls)) (fun y=>((st0 Tryz.f88 P_dl y).set 2 (.s .nls)).set 3 (.s (.d (.slice Y45) y.1))) (fun y=>y.1)
    (fun y=>by kernel_rfl) (fun y=>by kernel_rfl) (fun y=>by kernel_rfl) (fun y=>Nat.le_of_ble_eq_true (by kernel_rfl)) (fun y=>by kernel_rfl) (by kernel_rfl) (by kernel_rfl) (by kernel_rfl) (fun y=>by kernel_rfl)
    (fun y h=>by obtain ⟨l,v⟩:=y; have h:l=[]:=h; subst h; show run _ _ _ _ _ _=F_dl ([],v); kernel_rfl) (fun y=>by kernel_rfl)
def F_dm (x:denP P_al):FO P_al R_al:=
 (F_dg (x.1.1,())).bind fun r1=>
 (F_dg (x.1.2.2.1,())).bind fun r2=>
 (F_dg (x.1.2.2.2.2.2.2.2.1,())).bind fun r3=>
 (F_dg (x.1.2.2.2.2.2.2.2.2.1,())).bind fun r4=>
 some (((r1.1.1,(x.1.2.1,(r2.1.1,(x.1.2.2.2.1,(x.1.2.2.2.2.1,(x.1.2.2.2.2.2.1,(x.1.2.2.2.2.2.2.1,(r3.1.1,(r4.1.1,()))))))))),()),())
abbrev C_dm:Con:=⟨P_al,R_al,F_dm,false⟩
abbrev G_dm:Env:=[(87,C_dg)]
theorem g_dm:Qg Tryz.prog G_dm:=(Qa s_dg Qd)
theorem s_dm:Qb Tryz.prog 63 C_dm:=fnC (L:=[]) hT g_dm Tryz.f63 okP fun _=>by kernel_rfl
abbrev i_dn_5:Shp:={ slots:=[(1,.s (.ptr 1 0)),(2,.s (.ptr 2 0)),(18,.s (.dat YI)),(19,.s (.dat YI))],boxes:=[(1,[.own 30 Y30,.own 123 Y122,.own 53 Y38,.own 39 Y38,.own 2 YI,.own 46 Y45,.dat YI,.dat YI,.dat YI]),(2,[.own 30 Y30,.own 123 Y122,.own 53 Y38,.own 39 Y38,.own 2 YI,.own 46 Y45,.dat YI,.dat YI,.dat YI])],rows:=[] }
abbrev o_dn_5:List (Ex×Shp):=[(.exit 0,{ slots:=[(1,.s (.ptr 1 0)),(2,.s (.ptr 2 0))],boxes:=[(1,[.own 30 Y30,.own 123 Y122,.own 53 Y38,.own 39 Y38,.own 2 YI,.own 46 Y45,.dat YI,.dat YI,.dat YI]),(2,[.own 30 Y30,.own 123 Y122,.own 53 Y38,.own 39 Y38,.own 2 YI,.own 46 Y45,.dat YI,.dat YI,.dat YI])],rows:=[] })]
def l_dn_5 (rec:i_dn_5.den→Option (denO o_dn_5)) (u:i_dn_5.den):Option (denO o_dn_5):=
 if (ltI u.1.2.2.2.1 u.1.2.2.1) then
  if 0≤u.1.2.2.2.1∧u.1.2.2.2.1< ((u.2.1.1.2.2.2.2.2.1.length:Nat):Int) then
   ((u.2.1.1.2.2.2.2.2.1)[(u.1.2.2.2.1).toNat]?).bind fun y8=>
   (F_dm (y8,())).bind fun r9=>
   if 0≤u.1.2.2.2.1∧u.1.2.2.2.1< ((u.2.1.1.2.2.2.2.2.1.length:Nat):Int) then
    ((u.2.1.1.2.2.2.2.2.1)[(u.1.2.2.2.1).toNat]?).bind fun y10=>
    let v11:=(u.2.1.1.2.2.2.2.2.1.set (u.1.2.2.2.1).toNat r9.1.1)
    let v12:=(IntKind.i64.wrap (u.1.2.2.2.1+(1:Int)))
    rec (((),((),(u.1.2.2.1,(v12,())))),(((u.2.1.1.1,(u.2.1.1.2.1,(u.2.1.1.2.2.1,(u.2.1.1.2.2.2.1,(u.2.1.1.2.2.2.2.1,(v11,(u.2.1.1.2.2.2.2.2.2.1,(u.2.1.1.2.2.2.2.2.2.2.1,(u.2.1.1.2.2.2.2.2.2.2.2.1,()))))))))),(u.2.1.2.1,())),()))
   else none
  else none
 else
  some (.inl (((),((),())),((u.2.1.1,(u.2.1.2.1,())),())))
def L_dn_5 (x:i_dn_5.den):Option (denO o_dn_5):=Qc l_dn_5 lots x
def F_dn (x:denP P_de):FO P_de R_ah:=
 (F_dk (x.1.1,())).bind fun r1=>
 (F_dg (x.1.2.1,())).bind fun r2=>
 (F_dl (x.1.2.2.1,())).bind fun r3=>
 let v4:=((r3.1.1.length:Nat):Int)
 (L_dn_5 (((),((),(v4,((0:Int),())))),(((r1.1.1.1,(r1.1.1.2.1,(r1.1.1.2.2.1,(r1.1.1.2.2.2.1,(r2.1.1,(r3.1.1,(x.1.2.2.2.1,(x.1.2.2.2.2.1,(x.1.2.2.2.2.2.1,()))))))))),((([]:List (den Y30)),(([]:List (den Y122)),(([]:List (den Y38)),(([]:List (den Y38)),(([]:List (den YI)),(([]:List (den Y45)),((0:Int),((0:Int),((0:Int),()))))))))),())),()))).bind fun z13=>
 match z13 with
 | .inl x14=>
  some ((x14.2.1.1,()),())
 | .inr z13_=>
  none
abbrev C_dn:Con:=⟨P_de,R_ah,F_dn,false⟩
abbrev G_dn:Env:=[(63,C_dm),(86,C_dk),(87,C_dg),(88,C_dl)]
theorem g_dn:Qg Tryz.prog G_dn:=(Qa s_dm (Qa s_dk (Qa s_dg (Qa s_dl Qd))))
abbrev c_dn_5:Cut:=⟨i_dn_5,o_dn_5,fun x=>Qc l_dn_5 lots x⟩
theorem k_dn_5:Qu Tryz.prog 34 (.loop (nav Tryz.f32 [1,1,1,1,0,1,0,0])) c_dn_5:=
  Qi (L:=[]) hT g_dn (fun _ _=>by kernel_rfl) okP _
theorem r_dn (x):QK T G_dn [(5,c_dn_5)] Tryz.f32 C_dn.ps C_dn.rs x=C_dn.F x:=by kernel_rfl
theorem s_dn:Qb Tryz.prog 32 C_dn:=fnC (L:=[(5,c_dn_5)]) hT g_dn Tryz.f32 (okS okP (okS okP (okS okP (okS okP (okS (okS okP (okB (okU k_dn_5))) okP))))) r_dn
abbrev P_do:List PK:=[.ptr Y32]
def F_do (x:denP P_do):FO P_do R_c:=
 if 0≤x.1.2.2.2.1 then
  ((x.1.1.2.2.2.1)[(x.1.2.2.2.1).toNat]?).bind fun y1=>
  some ((y1.1,()),())
 else none
abbrev C_do:Con:=⟨P_do,R_c,F_do,false⟩
theorem s_do:Qb Tryz.prog 68 C_do:=fnC (L:=[]) hT g_a Tryz.f68 okP fun _=>by kernel_rfl
def F_dp (x:denP P_ai):FO P_ai R_r:=
 some ((((-1:Int),((0:Int),())),()),())
abbrev C_dp:Con:=⟨P_ai,R_r,F_dp,false⟩
theorem s_dp:Qb Tryz.prog 104 C_dp:=fnC (L:=[]) hT g_a Tryz.f104 okP fun _=>by kernel_rfl
abbrev P_dq:List PK:=[.val (.int .u64),.val (.int .u64)]
abbrev R_dq:List VK:=[.s (.dat (.int .u64)),.s (.dat (.int .u64))]
def F_dq (x:denP P_dq):FO P_dq R_dq:=
 let v1:=(iand .u64 x.1 (4294967295:Int))
 let v2:=((x.1).fdiv (2 ^ 32))
 let v3:=(iand .u64 x.2.1 (4294967295:Int))
 let v4:=((x.2.1).fdiv (2 ^ 32))
 let v5:=(IntKind.u64.wrap (v1*v3))
 let v6:=(IntKind.u64.wrap (v2*v3))
 let v7:=((v5).fdiv (2 ^ 32))
 let v8:=(IntKind.u64.wrap (v6+v7))
 let v9:=(iand .u64 v8 (4294967295:Int))
 let v10:=((v8).fdiv (2 ^ 32))
 let v11:=(IntKind.u64.wrap (v1*v4))
 let v12:=(IntKind.u64.wrap (v9+v11))
 let v13:=(IntKind.u64.wrap (v2*v4))
 let v14:=(IntKind.u64.wrap (v13+v10))
 let v15:=((v12).fdiv (2 ^ 32))
 let v16:=(IntKind.u64.wrap (v14+v15))
 let v17:=(IntKind.u64.wrap (x.1*x.2.1))
 some ((v16,v17,()),())
abbrev C_dq:Con:=⟨P_dq,R_dq,F_dq,false⟩
theorem s_dq:Qb Tryz.prog 208 C_dq:=fnC (L:=[]) hT g_a Tryz.f208 okP fun _=>by kernel_rfl
def F_dr (x:denP P_dq):FO P_dq R_dq:=
 (F_dq (x.1,x.2.1,())).bind fun r1=>
 some ((r1.1.1,r1.1.2.1,()),())
abbrev C_dr:Con:=⟨P_dq,R_dq,F_dr,false⟩
abbrev G_dr:Env:=[(208,C_dq)]
theorem g_dr:Qg Tryz.prog G_dr:=(Qa s_dq Qd)
theorem s_dr:Qb Tryz.prog 153 C_dr:=fnC (L:=[]) hT g_dr Tryz.f153 okP fun _=>by kernel_rfl
abbrev P_ds:List PK:=[.val Y26,.val YI]
abbrev i_ds_8:Shp:={ slots:=[(7,.s (.own 88 Y38)),(8,.s (.dat YI))],boxes:=[],rows:=[] }
abbrev o_ds_8:List (Ex×Shp):=[(.exit 0,{ slots:=[(7,.s (.own 88 Y38))],boxes:=[],rows:=[] })]
def l_ds_8 (rec:i_ds_8.den→Option (denO o_ds_8)) (u:i_ds_8.den):Option (denO o_ds_8):=
 let v8:=((u.1.1.length:Nat):Int)
 if (ltI u.1.2.1 v8) then
  if 0≤u.1.2.1∧u.1.2.1≤((u.1.1.length:Nat):Int)∧((u.1.1.length:Nat):Int)≤((u.1.1.length:Nat):Int) then
   if 0≤(0:Int)∧(0:Int)≤u.1.2.1∧u.1.2.1≤((u.1.1.length:Nat):Int) then
    if 0< ((((u.1.1.length:Nat):Int)).toNat-(u.1.2.1).toNat)∧0< ((u.1.1.drop (0+((0:Int)).toNat)).take ((u.1.2.1).toNat-((0:Int)).toNat)).length then
     let v9:=(splc u.1.1 ((u.1.1.drop (0+((0:Int)).toNat)).take ((u.1.2.1).toNat-((0:Int)).toNat)) (0+(u.1.2.1).toNat) ((((u.1.1.length:Nat):Int)).toNat-(u.1.2.1).toNat))
     let v10:=((min ((((u.1.1.length:Nat):Int)).toNat-(u.1.2.1).toNat) ((u.1.1.drop (0+((0:Int)).toNat)).take ((u.1.2.1).toNat-((0:Int)).toNat)).length:Nat):Int)
     let v11:=(IntKind.i64.wrap (u.1.2.1+v10))
     rec ((v9,(v11,())),((),()))
    else none
   else none
  else none
 else
  some (.inl ((u.1.1,()),((),())))
def L_ds_8 (x:i_ds_8.den):Option (denO o_ds_8):=Qc l_ds_8 lots x
def F_ds (x:denP P_ds):FO P_ds R_aj:=
 if (ltI x.2.1 (0:Int)) then none else
 let v1:=((x.1.length:Nat):Int)
 let v2:=(IntKind.u64.wrap v1)
 let v3:=(IntKind.u64.wrap x.2.1)
 (F_dr (v2,v3,())).bind fun r4=>
 if (ltI (0:Int) r4.1.1)=false then
  if (ltI (9223372036854775807:Int) r4.1.2.1) then none else
  let v5:=(IntKind.i64.wrap r4.1.2.1)
  if v5=v5∧0≤v5∧v5*16≤140737488355328∧v5≤9223372036854775807 then
   if 0< (List.replicate (v5).toNat (Qbr Y38)).length∧0< x.1.length then
    let v6:=(splc (List.replicate (v5).toNat (Qbr Y38)) x.1 0 (List.replicate (v5).toNat (Qbr Y38)).length)
    let v7:=((min (List.replicate (v5).toNat (Qbr Y38)).length x.1.length:Nat):Int)
    (L_ds_8 ((v6,(v7,())),((),()))).bind fun z12=>
    match z12 with
    | .inl x13=>
     some ((x13.1.1,()),())
    | .inr z12_=>
     none
   else none
  else none
 else none
abbrev C_ds:Con:=⟨P_ds,R_aj,F_ds,false⟩
abbrev G_ds:Env:=[(153,C_dr)]
theorem g_ds:Qg Tryz.prog G_ds:=(Qa s_dr Qd)
abbrev c_ds_8:Cut:=⟨i_ds_8,o_ds_8,fun x=>Qc l_ds_8 lots x⟩
theorem k_ds_8:Qu Tryz.prog 48 (.loop (nav Tryz.f103 [1,1,1,1,1,1,0,0,0])) c_ds_8:=
  Qi (L:=[]) hT g_ds (fun _ _=>by kernel_rfl) okP _
theorem r_ds (x):QK T G_ds [(8,c_ds_8)] Tryz.f103 C_ds.ps C_ds.rs x=C_ds.F x:=by kernel_rfl
theorem s_ds:Qb Tryz.prog 103 C_ds:=fnC (L:=[(8,c_ds_8)]) hT g_ds Tryz.f103 (okS okP (okS okP (okS okP (okS okP (okS okP (okS okP (okS (okB (okU k_ds_8)) okP))))))) r_ds
abbrev i_dt_8:Shp:={ slots:=[(1,.s (.dat YI)),(5,.s (.own 88 Y38)),(35,.s (.dat Y25)),(36,.s (.dat YI)),(37,.s (.dat YI))],boxes:=[],rows:=[] }
abbrev o_dt_8:List (Ex×Shp):=[(.exit 2,{ slots:=[(5,.s (.own 88 Y38))],boxes:=[],rows:=[] })]
def l_dt_8 (rec:i_dt_8.den→Option (denO o_dt_8)) (u:i_dt_8.den):Option (denO o_dt_8):=
 if (ltI u.1.2.2.2.2.1 u.1.2.2.2.1) then
  if 0≤u.1.2.2.2.2.1 then
   ((u.1.2.2.1)[(u.1.2.2.2.2.1).toNat]?).bind fun y18=>
   if (y18.1==u.1.1) then
    if 0≤y18.2.2.2.1∧y18.2.2.2.1< ((u.1.2.1.length:Nat):Int) then
     ((u.1.2.1)[(y18.2.2.2.1).toNat]?).bind fun y19=>
     let v20:=(u.1.2.1.set (y18.2.2.2.1).toNat (y18.2.2.1,((3:Int),())))
     if (y18.2.1==u.1.1) then
      if 0≤y18.2.2.2.2.1∧y18.2.2.2.2.1< ((v20.length:Nat):Int) then
       ((v20)[(y18.2.2.2.2.1).toNat]?).bind fun y21=>
       let v22:=(v20.set (y18.2.2.2.2.1).toNat (y18.2.2.1,((1:Int),())))
       let v23:=(IntKind.i64.wrap (u.1.2.2.2.2.1+(1:Int)))
       rec ((u.1.1,(v22,(u.1.2.2.1,(u.1.2.2.2.1,(v23,()))))),((),()))
      else none
     else
      let v24:=(IntKind.i64.wrap (u.1.2.2.2.2.1+(1:Int)))
      rec ((u.1.1,(v20,(u.1.2.2.1,(u.1.2.2.2.1,(v24,()))))),((),()))
    else none
   else
    if (y18.2.1==u.1.1) then
     if 0≤y18.2.2.2.2.1∧y18.2.2.2.2.1< ((u.1.2.1.length:Nat):Int) then
      ((u.1.2.1)[(y18.2.2.2.2.1).toNat]?).bind fun y25=>
      let v26:=(u.1.2.1.set (y18.2.2.2.2.1).toNat (y18.2.2.1,((1:Int),())))
      let v27:=(IntKind.i64.wrap (u.1.2.2.2.2.1+(1:Int)))
      rec ((u.1.1,(v26,(u.1.2.2.1,(u.1.2.2.2.1,(v27,()))))),((),()))
     else none
    else
     let v28:=(IntKind.i64.wrap (u.1.2.2.2.2.1+(1:Int)))
     rec ((u.1.1,(u.1.2.1,(u.1.2.2.1,(u.1.2.2.2.1,(v28,()))))),((),()))
  else none
 else
  some (.inl ((u.1.2.1,()),((),())))
def L_dt_8 (x:i_dt_8.den):Option (denO o_dt_8):=Qc l_dt_8 lots x
abbrev i_dt_3:Shp:={ slots:=[(0,.s (.pd Y28)),(1,.s (.dat YI)),(5,.s (.own 88 Y38)),(19,.s (.dat Y30)),(20,.s (.dat YI)),(21,.s (.dat YI))],boxes:=[],rows:=[] }
def l_dt_3 (rec:i_dt_3.den→Option (denO o_aj_3)) (u:i_dt_3.den):Option (denO o_aj_3):=
 if (ltI u.1.2.2.2.2.2.1 u.1.2.2.2.2.1) then
  if 0≤u.1.2.2.2.2.2.1 then
   ((u.1.2.2.2.1)[(u.1.2.2.2.2.2.1).toNat]?).bind fun y7=>
   if 0≤u.1.2.2.2.2.2.1∧u.1.2.2.2.2.2.1< ((u.1.2.2.1.length:Nat):Int) then
    ((u.1.2.2.1)[(u.1.2.2.2.2.2.1).toNat]?).bind fun y8=>
    let v9:=(u.1.2.2.1.set (u.1.2.2.2.2.2.1).toNat (y7,((7:Int),())))
    let v10:=(IntKind.i64.wrap (u.1.2.2.2.2.2.1+(1:Int)))
    rec ((u.1.1,(u.1.2.1,(v9,(u.1.2.2.2.1,(u.1.2.2.2.2.1,(v10,())))))),((),()))
   else none
  else none
 else
  some (.inl ((u.1.1,(u.1.2.1,(u.1.2.2.1,()))),((),())))
def L_dt_3 (x:i_dt_3.den):Option (denO o_aj_3):=Qc l_dt_3 lots x
def F_dt (x:denP P_h):FO P_h R_aj:=
 (F_dp ()).bind fun r1=>
 (F_ds ([r1.1.1],(8:Int),())).bind fun r2=>
 if 0≤x.2.1 then
  ((x.1.1)[(x.2.1).toNat]?).bind fun y3=>
  let v4:=((y3.length:Nat):Int)
  (L_dt_3 ((x.1,(x.2.1,(r2.1.1,(y3,(v4,((0:Int),())))))),((),()))).bind fun z11=>
  match z11 with
  | .inl x12=>
   let v13:=((x12.1.1.2.1.length:Nat):Int)
   (L_dt_8 ((x12.1.2.1,(x12.1.2.2.1,(x12.1.1.2.1,(v13,((0:Int),()))))),((),()))).bind fun z29=>
   match z29 with
   | .inl x30=>
    some ((x30.1.1,()),())
   | .inr z29_=>
    none
  | .inr z11_=>
   none
 else none
abbrev C_dt:Con:=⟨P_h,R_aj,F_dt,false⟩
abbrev G_dt:Env:=[(103,C_ds),(104,C_dp)]
theorem g_dt:Qg Tryz.prog G_dt:=(Qa s_ds (Qa s_dp Qd))
abbrev c_dt_8:Cut:=⟨i_dt_8,o_dt_8,fun x=>Qc l_dt_8 lots x⟩
theorem k_dt_8:Qu Tryz.prog 65 (.loop (nav Tryz.f38 [1,1,1,0,1,0,0])) c_dt_8:=
  Qi (L:=[]) hT g_dt (fun _ _=>by kernel_rfl) okP _
abbrev c_dt_3:Cut:=⟨i_dt_3,o_aj_3,fun x=>Qc l_dt_3 lots x⟩
theorem k_dt_3:Qu Tryz.prog 65 (.loop (nav Tryz.f38 [1,1,0,1,0,0])) c_dt_3:=
  Qi (L:=[]) hT g_dt (fun _ _=>by kernel_rfl) okP _
theorem r_dt (x):QK T G_dt [(8,c_dt_8),(3,c_dt_3)] Tryz.f38 C_dt.ps C_dt.rs x=C_dt.F x:=by kernel_rfl
theorem s_dt:Qb Tryz.prog 38 C_dt:=fnC (L:=[(8,c_dt_8),(3,c_dt_3)]) hT g_dt Tryz.f38 (okS okP (okS okP (okS (okS okP (okB (okU k_dt_3))) (okS (okS okP (okB (okU k_dt_8))) okP)))) r_dt
def F_du (x:denP P_an):FO P_an R_c:=
 ((x.1.2.2.1)[((9:Int)).toNat]?).bind fun y1=>
 if (y1 !=(0:Int))=true then
  ((x.1.2.2.1)[((9:Int)).toNat]?).bind fun y2=>
  if (leI y2 x.1.2.2.2.2.2.2.1) then
   let v3:=(ior .i64 (0:Int) (1:Int))
   if x.1.2.2.2.2.2.1 then
    let v4:=(ior .i64 v3 (2:Int))
    let v5:=((x.1.2.2.2.2.2.2.2.1.length:Nat):Int)
    if (ltI (0:Int) v5) then
     let v6:=(ior .i64 v4 (4:Int))
     some ((v6,()),())
    else
     some ((v4,()),())
   else
    let v7:=((x.1.2.2.2.2.2.2.2.1.length:Nat):Int)
    if (ltI (0:Int) v7) then
     let v8:=(ior .i64 v3 (4:Int))
     some ((v8,()),())
    else
     some ((v3,()),())
  else
   if x.1.2.2.2.2.2.1 then
    let v9:=(ior .i64 (0:Int) (2:Int))
    let v10:=((x.1.2.2.2.2.2.2.2.1.length:Nat):Int)
    if (ltI (0:Int) v10) then
     let v11:=(ior .i64 v9 (4:Int))
     some ((v11,()),())
    else
     some ((v9,()),())
   else
    let v12:=((x.1.2.2.2.2.2.2.2.1.length:Nat):Int)
    if (ltI (0:Int) v12) then
     let v13:=(ior .i64 (0:Int) (4:Int))
     some ((v13,()),())
    else
     some (((0:Int),()),())
 else
  if x.1.2.2.2.2.2.1 then
   let v14:=(ior .i64 (0:Int) (2:Int))
   let v15:=((x.1.2.2.2.2.2.2.2.1.length:Nat):Int)
   if (ltI (0:Int) v15) then
    let v16:=(ior .i64 v14 (4:Int))
    some ((v16,()),())
   else
    some ((v14,()),())
  else
   let v17:=((x.1.2.2.2.2.2.2.2.1.length:Nat):Int)
   if (ltI (0:Int) v17) then
    let v18:=(ior .i64 (0:Int) (4:Int))
    some ((v18,()),())
   else
    some (((0:Int),()),())
abbrev C_du:Con:=⟨P_an,R_c,F_du,false⟩
theorem s_du:Qb Tryz.prog 186 C_du:=fnC (L:=[]) hT g_a Tryz.f186 okP fun _=>by kernel_rfl
abbrev P_dv:List PK:=[.val (.int .u64)]
def tzF (n:Int):Option Int:=if n=1∨n=3∨n=5∨n=7 then some 0 else if n=2∨n=6 then some 1 else if n=4 then some 2 else none
def F_dv (x:denP P_dv):FO P_dv R_c:=match tzF x.1 with | some z=>some ((z,()),()) | none=>none
abbrev C_dv:Con:=⟨P_dv,R_c,F_dv,false⟩
theorem w_dv (n:Int) (k:Nat) (z:Int) (hn:(n==0)=false) (w:World) (hr:0≤IntKind.u64.wrap (bits BinOp.and IntKind.u64 n (IntKind.u64.wrap (-n))*285870213051353865) / 288230376151711744∧IntKind.u64.wrap (bits BinOp.and IntKind.u64 n (IntKind.u64.wrap (-n))*285870213051353865) / 288230376151711744< 64)
    (he:(IntKind.u64.wrap (bits BinOp.and IntKind.u64 n (IntKind.u64.wrap (-n))*285870213051353865) / 288230376151711744).toNat=k)
    (h:w.cell? { block:=0,off:=k }=some (.int .u8 z)) (hz:IntKind.i64.wrap z=z):Calls Tryz.prog 226 #[.int .u64 n] w fun e' w'=>e'= .returned (.int .i64 z)∧w'=w:=by
  go_enter Tryz.func226,Tryz.ntmps226
  go_wp2
  all_goals first | (go_ret; exact ⟨rfl,rfl⟩) | exact absurd hr ‹¬_› | simp_all
theorem v_dv {n z:Int} (h:tzF n=some z) {M:Nat→Nat→Prop} {w:World} (hl:Laid M w):Calls Tryz.prog 226 #[.int .u64 n] w fun e' w'=>e'= .returned (.int .i64 z)∧w'=w:=by
  have hg: ∀i v,(0,i,v)∈GL→w.cell? { block:=0,off:=i }=some v:=by
    intro i v hm
    obtain ⟨⟨c,e,fz,h1,h2⟩,_⟩:=hl _ hm
    simp only at h1 h2
    simp [World.cell?,h1,h2]
  have g0:=hg 0 (.int .u8 0) (by simp [GL])
  have g1:=hg 1 (.int .u8 1) (by simp [GL])
  have g3:=hg 3 (.int .u8 2) (by simp [GL])
  have key:((n=1∨n=3∨n=5∨n=7)∧z=0)∨((n=2∨n=6)∧z=1)∨(n=4∧z=2):=by
    unfold tzF at h
    split at h
    · exact .inl ⟨‹_›,(Osj h).symm⟩
    · split at h
      · exact .inr (.inl ⟨‹_›,(Osj h).symm⟩)
      · split at h
        · exact .inr (.inr ⟨‹_›,(Osj h).symm⟩)
        · cases h
  clear h
  rcases key with ⟨h | h | h | h,rfl⟩ | ⟨h | h,rfl⟩ | ⟨h,rfl⟩ <;> subst h
  all_goals first
    | exact w_dv _ 0 _ (by decide) w (by decide+kernel) (by decide+kernel) g0 (by decide+kernel)
    | exact w_dv _ 1 _ (by decide) w (by decide+kernel) (by decide+kernel) g1 (by decide+kernel)
    | exact w_dv _ 3 _ (by decide) w (by decide+kernel) (by decide+kernel) g3 (by decide+kernel)
theorem u_dv:QeX Tryz.prog 226 C_dv:=by
  intro x y hx w args S Q B M F hp ha _
  obtain ⟨v,vs',rfl,⟨cs,h1,h2⟩,rfl,rfl⟩:=ha
  have e1:v= .int .u64 x.1:=by
    have h1:cs=[v]:=h1
    subst h1
    simpa [Rp] using h2
  subst e1
  have hx:F_dv x=some y:=hx
  unfold F_dv at hx
  split at hx
  · rename_i z hz
    obtain rfl:=Osj hx
    refine (v_dv hz hp.laid).mono fun r w' h=>?_
    obtain ⟨rfl,rfl⟩:=h
    refine ⟨_,rfl,Kept.refl M w',[.int .i64 z],[],[],rfl,⟨_,[],[],[],rfl,rfl,⟨⟨[.int .i64 z],rfl,rfl⟩,rfl⟩,rfl,rfl⟩,⟨_,[],rfl,rfl,rfl⟩,List.nodup_nil,fun b hb=>by cases hb⟩
  · cases hx
theorem s_dv:Qb Tryz.prog 226 C_dv:=(u_dv).ok (Qff Tryz.func226 (by decide+kernel) (by kernel_rfl))
def F_dw (x:denP P_an):FO P_an R_c:=
 (F_du (x.1,())).bind fun r1=>
 ((x.1.2.2.1)[((7:Int)).toNat]?).bind fun y2=>
 let v3:=(iand .i64 r1.1.1 y2)
 ((x.1.2.2.1)[((0:Int)).toNat]?).bind fun y4=>
 let v5:=((y4).tmod (2:Int))
 if (v5==(0:Int))=false then
  if (v3==(0:Int)) then
   some (((-1:Int),()),())
  else
   let v6:=(IntKind.u64.wrap v3)
   (F_dv (v6,())).bind fun r7=>
   some ((r7.1.1,()),())
 else
  some (((-1:Int),()),())
abbrev C_dw:Con:=⟨P_an,R_c,F_dw,false⟩
abbrev G_dw:Env:=[(186,C_du),(226,C_dv)]
theorem g_dw:Qg Tryz.prog G_dw:=(Qa s_du (Qa s_dv Qd))
theorem s_dw:Qb Tryz.prog 184 C_dw:=fnC (L:=[]) hT g_dw Tryz.f184 okP fun _=>by kernel_rfl
abbrev P_dx:List PK:=[.box [.own 2 YI,.dat YI,.own 2 YI,.dat .bool,.dat .bool,.dat .bool,.dat YI,.own 2 YI,.own 2 YI] [.own 2 YI,.dat YI,.own 2 YI,.dat .bool,.dat .bool,.dat .bool,.dat YI,.own 2 YI,.own 2 YI],.val YI,.val YI]
def F_dx (x:denP P_dx):FO P_dx R_ap:=
 if 0≤(2:Int)∧(2:Int)< ((x.1.2.2.1.length:Nat):Int) then
  ((x.1.2.2.1)[((2:Int)).toNat]?).bind fun y1=>
  let v2:=(x.1.2.2.1.set ((2:Int)).toNat x.1.2.1)
  if 0≤(3:Int)∧(3:Int)< ((v2.length:Nat):Int) then
   ((v2)[((3:Int)).toNat]?).bind fun y3=>
   let v4:=(v2.set ((3:Int)).toNat x.2.1)
   if 0≤(4:Int)∧(4:Int)< ((v4.length:Nat):Int) then
    ((v4)[((4:Int)).toNat]?).bind fun y5=>
    let v6:=(v4.set ((4:Int)).toNat x.2.2.1)
    if 0≤(0:Int)∧(0:Int)< ((v6.length:Nat):Int) then
     ((v6)[((0:Int)).toNat]?).bind fun y7=>
     let v8:=((y7).tmod (2:Int))
     let v9:=(IntKind.i64.wrap (v8*(2:Int)))
     if 0≤(0:Int)∧(0:Int)< ((v6.length:Nat):Int) then
      ((v6)[((0:Int)).toNat]?).bind fun y10=>
      let v11:=(v6.set ((0:Int)).toNat v9)
      if 0≤(1:Int)∧(1:Int)< ((v11.length:Nat):Int) then
       ((v11)[((1:Int)).toNat]?).bind fun y12=>
       some ((),((x.1.1,(y12,(v11,(x.1.2.2.2.1,(false,(x.1.2.2.2.2.2.1,(x.1.2.2.2.2.2.2.1,(x.1.2.2.2.2.2.2.2.1,(x.1.2.2.2.2.2.2.2.2.1,()))))))))),()))
      else none
     else none
    else none
   else none
  else none
 else none
abbrev C_dx:Con:=⟨P_dx,R_ap,F_dx,false⟩
theorem s_dx:Qb Tryz.prog 227 C_dx:=fnC (L:=[]) hT g_a Tryz.f227 okP fun _=>by kernel_rfl
abbrev P_dy:List PK:=[.box [.own 2 YI,.dat YI,.own 2 YI,.dat .bool,.dat .bool,.dat .bool,.dat YI,.own 2 YI,.own 2 YI,.dat Y26,.own 2 YI,.dat YI,.dat YI] [.own 2 YI,.dat YI,.own 2 YI,.dat .bool,.dat .bool,.dat .bool,.dat YI,.own 2 YI,.own 2 YI,.dat Y26,.own 2 YI,.dat YI,.dat YI],.val YI,.val YI]
def F_dy (x:denP P_dy):FO P_dy R_ap:=
 (F_dx ((x.1.1,(x.1.2.1,(x.1.2.2.1,(x.1.2.2.2.1,(x.1.2.2.2.2.1,(x.1.2.2.2.2.2.1,(x.1.2.2.2.2.2.2.1,(x.1.2.2.2.2.2.2.2.1,(x.1.2.2.2.2.2.2.2.2.1,()))))))))),x.2.1,x.2.2.1,())).bind fun r1=>
 some ((),((r1.2.1.1,(r1.2.1.2.1,(r1.2.1.2.2.1,(r1.2.1.2.2.2.1,(r1.2.1.2.2.2.2.1,(r1.2.1.2.2.2.2.2.1,(r1.2.1.2.2.2.2.2.2.1,(r1.2.1.2.2.2.2.2.2.2.1,(r1.2.1.2.2.2.2.2.2.2.2.1,(x.1.2.2.2.2.2.2.2.2.2.1,(x.1.2.2.2.2.2.2.2.2.2.2.1,(x.2.1,(x.1.2.2.2.2.2.2.2.2.2.2.2.2.1,()))))))))))))),()))
abbrev C_dy:Con:=⟨P_dy,R_ap,F_dy,false⟩
abbrev G_dy:Env:=[(227,C_dx)]
theorem g_dy:Qg Tryz.prog G_dy:=(Qa s_dx Qd)
theorem s_dy:Qb Tryz.prog 185 C_dy:=fnC (L:=[]) hT g_dy Tryz.f185 okP fun _=>by kernel_rfl
def F_dz (x:denP P_f):FO P_f R_u:=
 let v1:=(IntKind.i64.wrap (x.2.1*(8:Int)))
 let v2:=(IntKind.i64.wrap (x.2.1+(1:Int)))
 let v3:=(IntKind.i64.wrap (v2*(8:Int)))
 if 0≤v1∧v1≤v3∧v3≤((x.1.length:Nat):Int) then
  let v4:=((x.1.drop (v1).toNat).take ((v3).toNat-(v1).toNat))
  (F_dg (v4,())).bind fun r5=>
  some ((r5.1.1,()),())
 else none
abbrev C_dz:Con:=⟨P_f,R_u,F_dz,false⟩
theorem g_dz:Qg Tryz.prog G_dm:=(Qa s_dg Qd)
theorem s_dz:Qb Tryz.prog 43 C_dz:=fnC (L:=[]) hT g_dz Tryz.f43 okP fun _=>by kernel_rfl
def F_ea (x:denP P_n):FO P_n R_r:=
 let v1:=(IntKind.i64.wrap ((x.1).tdiv (8:Int)))
 let v2:=((x.1).tmod (8:Int))
 if (v2==(0:Int))=false then
  if (leI (8:Int) v1) then
   (F_dp ()).bind fun r3=>
   some ((r3.1.1,()),())
  else
   some (((v1,(v2,())),()),())
 else
  (F_dp ()).bind fun r4=>
  some ((r4.1.1,()),())
abbrev C_ea:Con:=⟨P_n,R_r,F_ea,false⟩
abbrev G_ea:Env:=[(104,C_dp)]
theorem g_ea:Qg Tryz.prog G_ea:=(Qa s_dp Qd)
theorem s_ea:Qb Tryz.prog 265 C_ea:=fnC (L:=[]) hT g_ea Tryz.f265 okP fun _=>by kernel_rfl
abbrev i_eb_7:Shp:={ slots:=[(2,.s (.ptr 2 0)),(3,.s (.own 88 Y38)),(15,.s (.dat Y30)),(16,.s (.dat YI)),(17,.s (.dat YI))],boxes:=[(2,[.dat YI,.own 88 Y38])],rows:=[] }
abbrev o_eb_7:List (Ex×Shp):=[(.exit 0,{ slots:=[(2,.s (.ptr 2 0)),(3,.s (.own 88 Y38))],boxes:=[(2,[.dat YI,.own 88 Y38])],rows:=[] })]
def l_eb_7 (rec:i_eb_7.den→Option (denO o_eb_7)) (u:i_eb_7.den):Option (denO o_eb_7):=
 if (ltI u.1.2.2.2.2.1 u.1.2.2.2.1) then
  if 0≤u.1.2.2.2.2.1 then
   ((u.1.2.2.1)[(u.1.2.2.2.2.1).toNat]?).bind fun y6=>
   (F_ea (y6,())).bind fun r7=>
   if (u.1.2.1.length+[r7.1.1].length)*16≤140737488355328 then
    let v8:=(u.1.2.1++[r7.1.1])
    let v9:=(IntKind.i64.wrap (u.1.2.2.2.2.1+(1:Int)))
    rec (((),(v8,(u.1.2.2.1,(u.1.2.2.2.1,(v9,()))))),((u.2.1.1,()),()))
   else none
  else none
 else
  some (.inl (((),(u.1.2.1,())),((u.2.1.1,()),())))
def L_eb_7 (x:i_eb_7.den):Option (denO o_eb_7):=Qc l_eb_7 lots x
def F_eb (x:denP P_ae):FO P_ae R_at:=
 let v1:=((x.1.length:Nat):Int)
 if (v1 !=(8:Int)) then
  some ((((1:Int),(([]:List (den Y38)),())),()),())
 else
  (F_cv (x.1,())).bind fun r2=>
  if (!r2.1.1) then
   some ((((3:Int),(([]:List (den Y38)),())),()),())
  else
   let v3:=((x.1.length:Nat):Int)
   (L_eb_7 (((),(([]:List (den Y38)),(x.1,(v3,((0:Int),()))))),((((0:Int),(([]:List (den Y38)),())),()),()))).bind fun z10=>
   match z10 with
   | .inl x11=>
    some ((((0:Int),(x11.1.2.1,())),()),())
   | .inr z10_=>
    none
abbrev C_eb:Con:=⟨P_ae,R_at,F_eb,false⟩
abbrev G_eb:Env:=[(107,C_cv),(265,C_ea)]
theorem g_eb:Qg Tryz.prog G_eb:=(Qa s_cv (Qa s_ea Qd))
abbrev c_eb_7:Cut:=⟨i_eb_7,o_eb_7,fun x=>Qc l_eb_7 lots x⟩
theorem k_eb_7:Qu Tryz.prog 29 (.loop (nav Tryz.f253 [1,1,1,1,0,1,0,0])) c_eb_7:=
  Qi (L:=[]) hT g_eb (fun _ _=>by kernel_rfl) okP _
theorem r_eb (x):QK T G_eb [(7,c_eb_7)] Tryz.f253 C_eb.ps C_eb.rs x=C_eb.F x:=by kernel_rfl
theorem s_eb:Qb Tryz.prog 253 C_eb:=fnC (L:=[(7,c_eb_7)]) hT g_eb Tryz.f253 (okS okP (okS okP (okS okP (okS okP (okS (okS okP (okB (okU k_eb_7))) okP))))) r_eb
abbrev P_ec:List PK:=[.ptr Y45,.val Y26,.val Y30]
abbrev i_ec_5:Shp:={ slots:=[(6,.s (.ptr 6 0)),(8,.s (.own 88 Y38)),(20,.s (.dat YI))],boxes:=[(6,[.dat YI,.own 88 Y38])],rows:=[] }
abbrev o_ec_5:List (Ex×Shp):=[(.exit 0,{ slots:=[(6,.s (.ptr 6 0)),(8,.s (.own 88 Y38))],boxes:=[(6,[.dat YI,.own 88 Y38])],rows:=[] })]
def l_ec_5 (rec:i_ec_5.den→Option (denO o_ec_5)) (u:i_ec_5.den):Option (denO o_ec_5):=
 if (ltI u.1.2.2.1 (8:Int)) then
  if (u.1.2.1.length+[(u.1.2.2.1,((7:Int),()))].length)*16≤140737488355328 then
   let v3:=(u.1.2.1++[(u.1.2.2.1,((7:Int),()))])
   let v4:=(IntKind.i64.wrap (u.1.2.2.1+(1:Int)))
   rec (((),(v3,(v4,()))),((u.2.1.1,()),()))
  else none
 else
  some (.inl (((),(u.1.2.1,())),((u.2.1.1,()),())))
def L_ec_5 (x:i_ec_5.den):Option (denO o_ec_5):=Qc l_ec_5 lots x
def F_ec (x:denP P_ec):FO P_ec R_at:=
 ((x.1.2.2.1)[((10:Int)).toNat]?).bind fun y1=>
 let v2:=(IntKind.i64.wrap (y1-(1:Int)))
 if (ltI v2 (0:Int)) then
  (L_ec_5 (((),(([]:List (den Y38)),((0:Int),()))),((((0:Int),(([]:List (den Y38)),())),()),()))).bind fun z5=>
  match z5 with
  | .inl x6=>
   some ((((0:Int),(x6.1.2.1,())),()),())
  | .inr z5_=>
   none
 else
  if 0≤v2 then
   ((x.2.1)[(v2).toNat]?).bind fun y7=>
   if (ltI y7.1 (0:Int))=false then
    if 0≤v2 then
     ((x.2.1)[(v2).toNat]?).bind fun y8=>
     let v9:=(iand .i64 y8.2.1 (1:Int))
     if (v9==(0:Int))=false then
      if (v2==(7:Int)) then
       some ((((7:Int),(([]:List (den Y38)),())),()),())
      else
       if 0≤v2 then
        ((x.2.1)[(v2).toNat]?).bind fun y10=>
        (F_dz (x.2.2.1,y10.1,())).bind fun r11=>
        (F_eb (r11.1.1,())).bind fun r12=>
        some ((r12.1.1,()),())
       else none
     else
      some ((((7:Int),(([]:List (den Y38)),())),()),())
    else none
   else
    some ((((7:Int),(([]:List (den Y38)),())),()),())
  else none
abbrev C_ec:Con:=⟨P_ec,R_at,F_ec,false⟩
abbrev G_ec:Env:=[(43,C_dz),(253,C_eb)]
theorem g_ec:Qg Tryz.prog G_ec:=(Qa s_dz (Qa s_eb Qd))
abbrev c_ec_5:Cut:=⟨i_ec_5,o_ec_5,fun x=>Qc l_ec_5 lots x⟩
theorem k_ec_5:Qu Tryz.prog 59 (.loop (nav Tryz.f228 [1,1,0,1,0,1,0,1,0,0])) c_ec_5:=
  Qi (L:=[]) hT g_ec (fun _ _=>by kernel_rfl) okP _
theorem r_ec (x):QK T G_ec [(5,c_ec_5)] Tryz.f228 C_ec.ps C_ec.rs x=C_ec.F x:=by kernel_rfl
theorem s_ec:Qb Tryz.prog 228 C_ec:=fnC (L:=[(5,c_ec_5)]) hT g_ec Tryz.f228 (okS okP (okS okP (okS (okS okP (okI (okS okP (okS (okS okP (okB (okU k_ec_5))) okP)) okP)) okP))) r_ec
def F_ed (x:denP P_n):FO P_n R_a:=
 (F_cb (x.1,(0:Int),(63:Int),())).bind fun r1=>
 some ((r1.1.1,()),())
abbrev C_ed:Con:=⟨P_n,R_a,F_ed,false⟩
theorem g_ed:Qg Tryz.prog G_cc:=(Qa s_cb Qd)
theorem s_ed:Qb Tryz.prog 254 C_ed:=fnC (L:=[]) hT g_ed Tryz.f254 okP fun _=>by kernel_rfl
def F_ee (x:denP P_n):FO P_n R_c:=
 if (x.1==(1:Int)) then
  some (((7:Int),()),())
 else
  if (x.1==(2:Int)) then
   some (((8:Int),()),())
  else
   if (x.1==(4:Int)) then
    some (((9:Int),()),())
   else
    some (((0:Int),()),())
abbrev C_ee:Con:=⟨P_n,R_c,F_ee,false⟩
theorem s_ee:Qb Tryz.prog 255 C_ee:=fnC (L:=[]) hT g_a Tryz.f255 okP fun _=>by kernel_rfl
def F_ef (x:denP P_ar):FO P_ar R_r:=
 (F_ed (x.2.1,())).bind fun r1=>
 if (!r1.1.1)=false then
  let v2:=(IntKind.i64.wrap ((x.2.1).tdiv (8:Int)))
  if 0≤v2 then
   ((x.1)[(v2).toNat]?).bind fun y3=>
   if (ltI y3.1 (0:Int))=false then
    let v4:=(IntKind.i64.wrap ((x.2.1).tdiv (8:Int)))
    if 0≤v4 then
     ((x.1)[(v4).toNat]?).bind fun y5=>
     let v6:=(iand .i64 y5.2.1 x.2.2.1)
     if (v6==(0:Int)) then
      (F_ee (x.2.2.1,())).bind fun r7=>
      some (((r7.1.1,((0:Int),())),()),())
     else
      let v8:=(IntKind.i64.wrap ((x.2.1).tdiv (8:Int)))
      if 0≤v8 then
       ((x.1)[(v8).toNat]?).bind fun y9=>
       let v10:=(IntKind.i64.wrap (y9.1*(8:Int)))
       let v11:=((x.2.1).tmod (8:Int))
       let v12:=(IntKind.i64.wrap (v10+v11))
       some ((((0:Int),(v12,())),()),())
      else none
    else none
   else
    (F_ee (x.2.2.1,())).bind fun r13=>
    some (((r13.1.1,((0:Int),())),()),())
  else none
 else
  (F_ee (x.2.2.1,())).bind fun r14=>
  some (((r14.1.1,((0:Int),())),()),())
abbrev C_ef:Con:=⟨P_ar,R_r,F_ef,false⟩
abbrev G_ef:Env:=[(254,C_ed),(255,C_ee)]
theorem g_ef:Qg Tryz.prog G_ef:=(Qa s_ed (Qa s_ee Qd))
theorem s_ef:Qb Tryz.prog 229 C_ef:=fnC (L:=[]) hT g_ef Tryz.f229 okP fun _=>by kernel_rfl
abbrev P_eg:List PK:=[.ptr Y45,.val Y26,.val Y30,.val YI,.val YI]
def F_eg (x:denP P_eg):FO P_eg R_r:=
 (F_ec (x.1,x.2.1,x.2.2.1,())).bind fun r1=>
 if (r1.1.1.1 !=(0:Int)) then
  some (((r1.1.1.1,((0:Int),())),()),())
 else
  (F_ef (r1.1.1.2.1,x.2.2.2.1,x.2.2.2.2.1,())).bind fun r2=>
  if (r2.1.1.1 !=(0:Int)) then
   some ((r2.1.1,()),())
  else
   let v3:=(IntKind.i64.wrap ((r2.1.1.2.1).tdiv (8:Int)))
   if (v3 !=(7:Int)) then
    (F_ef (x.2.1,r2.1.1.2.1,x.2.2.2.2.1,())).bind fun r4=>
    some ((r4.1.1,()),())
   else
    if (x.2.2.2.2.1==(4:Int)) then
     some ((((9:Int),((0:Int),())),()),())
    else
     let v5:=((r2.1.1.2.1).tmod (8:Int))
     let v6:=(IntKind.i64.wrap ((1000:Int)+v5))
     some ((((0:Int),(v6,())),()),())
abbrev C_eg:Con:=⟨P_eg,R_r,F_eg,false⟩
abbrev G_eg:Env:=[(228,C_ec),(229,C_ef)]
theorem g_eg:Qg Tryz.prog G_eg:=(Qa s_ec (Qa s_ef Qd))
theorem s_eg:Qb Tryz.prog 187 C_eg:=fnC (L:=[]) hT g_eg Tryz.f187 okP fun _=>by kernel_rfl
def F_eh (x:denP P_q):FO P_q R_c:=
 (F_cb (x.1.1,(1:Int),(26:Int),())).bind fun r1=>
 if (!r1.1.1)=false then
  (F_cb (x.1.2.1,(0:Int),(15:Int),())).bind fun r2=>
  if (!r2.1.1)=false then
   (F_cb (x.1.2.2.1,(0:Int),(15:Int),())).bind fun r3=>
   if (!r3.1.1)=false then
    (F_cb (x.1.2.2.2.1,(0:Int),(65535:Int),())).bind fun r4=>
    if (!r4.1.1) then
     some (((3:Int),()),())
    else
     if (leI x.1.1 (11:Int)) then
      if (ltI (15:Int) x.1.2.2.2.1) then
       some (((1:Int),()),())
      else
       some (((0:Int),()),())
     else
      if (x.1.1==(13:Int)) then
       if (x.1.2.2.1 !=(0:Int)) then
        some (((1:Int),()),())
       else
        some (((0:Int),()),())
      else
       if (x.1.1==(19:Int)) then
        if (x.1.2.2.1 !=(0:Int)) then
         some (((1:Int),()),())
        else
         some (((0:Int),()),())
       else
        if (x.1.1==(21:Int)) then
         if (ltI (10:Int) x.1.2.2.2.1)=false then
          if (x.1.2.2.1 !=(0:Int)) then
           some (((1:Int),()),())
          else
           some (((0:Int),()),())
         else
          some (((1:Int),()),())
        else
         if (x.1.1==(22:Int)) then
          if (ltI (10:Int) x.1.2.2.2.1)=false then
           if (x.1.2.1 !=(0:Int)) then
            some (((1:Int),()),())
           else
            some (((0:Int),()),())
          else
           some (((1:Int),()),())
         else
          if (leI (23:Int) x.1.1) then
           if (x.1.2.1 !=(0:Int))=false then
            if (x.1.2.2.1 !=(0:Int))=false then
             if (x.1.2.2.2.1 !=(0:Int)) then
              some (((1:Int),()),())
             else
              some (((0:Int),()),())
            else
             some (((1:Int),()),())
           else
            some (((1:Int),()),())
          else
           some (((0:Int),()),())
   else
    some (((3:Int),()),())
  else
   some (((3:Int),()),())
 else
  some (((3:Int),()),())
abbrev C_eh:Con:=⟨P_q,R_c,F_eh,false⟩
theorem g_eh:Qg Tryz.prog G_cc:=(Qa s_cb Qd)
theorem s_eh:Qb Tryz.prog 230 C_eh:=fnC (L:=[]) hT g_eh Tryz.f230 okP fun _=>by kernel_rfl
abbrev R_ei:List VK:=[.s (.dat Y223)]
def F_ei (x:denP P_n):FO P_n R_ei:=
 let v1:=((x.1).fdiv (2 ^ 24))
 let v2:=((x.1).fdiv (2 ^ 20))
 let v3:=(iand .i64 v2 (15:Int))
 let v4:=((x.1).fdiv (2 ^ 16))
 let v5:=(iand .i64 v4 (15:Int))
 let v6:=(iand .i64 x.1 (65535:Int))
 (F_eh ((v1,(v3,(v5,(v6,())))),())).bind fun r7=>
 if (r7.1.1 !=(0:Int)) then
  some ((((5:Int),(((0:Int),((0:Int),((0:Int),((0:Int),())))),())),()),())
 else
  some ((((0:Int),((v1,(v3,(v5,(v6,())))),())),()),())
abbrev C_ei:Con:=⟨P_n,R_ei,F_ei,false⟩
abbrev G_ei:Env:=[(230,C_eh)]
theorem g_ei:Qg Tryz.prog G_ei:=(Qa s_eh Qd)
theorem s_ei:Qb Tryz.prog 188 C_ei:=fnC (L:=[]) hT g_ei Tryz.f188 okP fun _=>by kernel_rfl
def F_ej (x:denP P_n):FO P_n R_c:=
 let v1:=(iand .i64 x.1 (4294967295:Int))
 some ((v1,()),())
abbrev C_ej:Con:=⟨P_n,R_c,F_ej,false⟩
theorem s_ej:Qb Tryz.prog 256 C_ej:=fnC (L:=[]) hT g_a Tryz.f256 okP fun _=>by kernel_rfl
def F_ek (x:denP P_ay):FO P_ay R_c:=
 (F_ej (x.1,())).bind fun r1=>
 (F_ej (x.2.1,())).bind fun r2=>
 let v3:=(IntKind.i64.wrap (r1.1.1+r2.1.1))
 (F_ej (v3,())).bind fun r4=>
 some ((r4.1.1,()),())
abbrev C_ek:Con:=⟨P_ay,R_c,F_ek,false⟩
abbrev G_ek:Env:=[(256,C_ej)]
theorem g_ek:Qg Tryz.prog G_ek:=(Qa s_ej Qd)
theorem s_ek:Qb Tryz.prog 231 C_ek:=fnC (L:=[]) hT g_ek Tryz.f231 okP fun _=>by kernel_rfl
def F_el (x:denP P_n):FO P_n R_c:=
 let v1:=(iand .i64 x.1 (65535:Int))
 if (leI (32768:Int) v1) then
  let v2:=(IntKind.i64.wrap (v1-(65536:Int)))
  some ((v2,()),())
 else
  some ((v1,()),())
abbrev C_el:Con:=⟨P_n,R_c,F_el,false⟩
theorem s_el:Qb Tryz.prog 232 C_el:=fnC (L:=[]) hT g_a Tryz.f232 okP fun _=>by kernel_rfl
abbrev P_em:List PK:=[.box [.own 2 YI,.dat YI,.own 2 YI,.dat .bool,.dat .bool,.dat .bool,.dat YI,.own 2 YI,.own 2 YI] [.own 2 YI,.dat YI,.own 2 YI,.dat .bool,.dat .bool,.dat .bool,.dat YI,.own 2 YI,.own 2 YI],.val YI]
def F_em (x:denP P_em):FO P_em R_c:=
 if (x.2.1==(1:Int)) then
  let v1:=((x.1.2.2.2.2.2.2.2.1.length:Nat):Int)
  if (ltI (0:Int) v1) then
   if 0≤(0:Int)∧(0:Int)< ((x.1.2.2.2.2.2.2.2.1.length:Nat):Int) then
    ((x.1.2.2.2.2.2.2.2.1)[((0:Int)).toNat]?).bind fun y2=>
    if 0≤(1:Int)∧(1:Int)≤((x.1.2.2.2.2.2.2.2.1.length:Nat):Int)∧((x.1.2.2.2.2.2.2.2.1.length:Nat):Int)≤((x.1.2.2.2.2.2.2.2.1.length:Nat):Int) then
     (F_dg (((x.1.2.2.2.2.2.2.2.1.drop (0+((1:Int)).toNat)).take ((((x.1.2.2.2.2.2.2.2.1.length:Nat):Int)).toNat-((1:Int)).toNat)),())).bind fun r3=>
     some ((y2,()),((x.1.1,(x.1.2.1,(x.1.2.2.1,(x.1.2.2.2.1,(x.1.2.2.2.2.1,(x.1.2.2.2.2.2.1,(x.1.2.2.2.2.2.2.1,(r3.1.1,(x.1.2.2.2.2.2.2.2.2.1,()))))))))),()))
    else none
   else none
  else
   some (((0:Int),()),(x.1,()))
 else
  if (x.2.1==(2:Int)) then
   some ((x.1.2.2.2.2.2.2.1,()),(x.1,()))
  else
   if (x.2.1==(3:Int)) then
    if 0≤(9:Int)∧(9:Int)< ((x.1.2.2.1.length:Nat):Int) then
     ((x.1.2.2.1)[((9:Int)).toNat]?).bind fun y4=>
     some ((y4,()),(x.1,()))
    else none
   else
    if (x.2.1==(4:Int)) then
     (F_du (x.1,())).bind fun r5=>
     some ((r5.1.1,()),(x.1,()))
    else
     if (x.2.1==(6:Int)) then
      let v6:=((x.1.2.2.2.2.2.2.2.1.length:Nat):Int)
      some ((v6,()),(x.1,()))
     else
      some (((0:Int),()),(x.1,()))
abbrev C_em:Con:=⟨P_em,R_c,F_em,false⟩
abbrev G_em:Env:=[(87,C_dg),(186,C_du)]
theorem g_em:Qg Tryz.prog G_em:=(Qa s_dg (Qa s_du Qd))
theorem s_em:Qb Tryz.prog 257 C_em:=fnC (L:=[]) hT g_em Tryz.f257 okP fun _=>by kernel_rfl
abbrev P_en:List PK:=[.box [.own 2 YI,.dat YI,.own 2 YI,.dat .bool,.dat .bool,.dat .bool,.dat YI,.own 2 YI,.own 2 YI,.dat Y26,.own 2 YI,.dat YI,.dat YI] [.own 2 YI,.dat YI,.own 2 YI,.dat .bool,.dat .bool,.dat .bool,.dat YI,.own 2 YI,.own 2 YI,.dat Y26,.own 2 YI,.dat YI,.dat YI],.val YI]
abbrev R_en:List VK:=[.s (.dat YI),.s (.dat .bool)]
def F_en (x:denP P_en):FO P_en R_en:=
 (F_eg ((x.1.1,(x.1.2.1,(x.1.2.2.1,(x.1.2.2.2.1,(x.1.2.2.2.2.1,(x.1.2.2.2.2.2.1,(x.1.2.2.2.2.2.2.1,(x.1.2.2.2.2.2.2.2.1,(x.1.2.2.2.2.2.2.2.2.1,()))))))))),x.1.2.2.2.2.2.2.2.2.2.1,x.1.2.2.2.2.2.2.2.2.2.2.1,x.2.1,(1:Int),())).bind fun r1=>
 if (r1.1.1.1 !=(0:Int)) then
  (F_dy (x.1,(3:Int),x.2.1,())).bind fun r2=>
  some (((0:Int),false,()),(r2.2.1,()))
 else
  if (leI (1000:Int) r1.1.1.2.1) then
   let v3:=(IntKind.i64.wrap (r1.1.1.2.1-(1000:Int)))
   (F_em ((x.1.1,(x.1.2.1,(x.1.2.2.1,(x.1.2.2.2.1,(x.1.2.2.2.2.1,(x.1.2.2.2.2.2.1,(x.1.2.2.2.2.2.2.1,(x.1.2.2.2.2.2.2.2.1,(x.1.2.2.2.2.2.2.2.2.1,()))))))))),v3,())).bind fun r4=>
   some ((r4.1.1,true,()),((r4.2.1.1,(r4.2.1.2.1,(r4.2.1.2.2.1,(r4.2.1.2.2.2.1,(r4.2.1.2.2.2.2.1,(r4.2.1.2.2.2.2.2.1,(r4.2.1.2.2.2.2.2.2.1,(r4.2.1.2.2.2.2.2.2.2.1,(r4.2.1.2.2.2.2.2.2.2.2.1,(x.1.2.2.2.2.2.2.2.2.2.1,(x.1.2.2.2.2.2.2.2.2.2.2.1,(x.1.2.2.2.2.2.2.2.2.2.2.2.1,(x.1.2.2.2.2.2.2.2.2.2.2.2.2.1,()))))))))))))),()))
  else
   if 0≤r1.1.1.2.1∧r1.1.1.2.1< ((x.1.2.2.2.2.2.2.2.2.2.2.1.length:Nat):Int) then
    ((x.1.2.2.2.2.2.2.2.2.2.2.1)[(r1.1.1.2.1).toNat]?).bind fun y5=>
    some ((y5,true,()),(x.1,()))
   else none
abbrev C_en:Con:=⟨P_en,R_en,F_en,false⟩
abbrev G_en:Env:=[(185,C_dy),(187,C_eg),(257,C_em)]
theorem g_en:Qg Tryz.prog G_en:=(Qa s_dy (Qa s_eg (Qa s_em Qd)))
theorem s_en:Qb Tryz.prog 233 C_en:=fnC (L:=[]) hT g_en Tryz.f233 okP fun _=>by kernel_rfl
def F_eo (x:denP P_dx):FO P_dx R_ap:=
 (F_ej (x.2.2.1,())).bind fun r1=>
 if (x.2.1==(0:Int)) then
  let v2:=((r1.1.1).tmod (4:Int))
  if 0≤x.2.1∧x.2.1< ((x.1.2.2.1.length:Nat):Int) then
   ((x.1.2.2.1)[(x.2.1).toNat]?).bind fun y3=>
   let v4:=(x.1.2.2.1.set (x.2.1).toNat v2)
   some ((),((x.1.1,(x.1.2.1,(v4,(x.1.2.2.2.1,(x.1.2.2.2.2.1,(x.1.2.2.2.2.2.1,(x.1.2.2.2.2.2.2.1,(x.1.2.2.2.2.2.2.2.1,(x.1.2.2.2.2.2.2.2.2.1,()))))))))),()))
  else none
 else
  if (x.2.1==(7:Int)) then
   let v5:=((r1.1.1).tmod (8:Int))
   if 0≤x.2.1∧x.2.1< ((x.1.2.2.1.length:Nat):Int) then
    ((x.1.2.2.1)[(x.2.1).toNat]?).bind fun y6=>
    let v7:=(x.1.2.2.1.set (x.2.1).toNat v5)
    some ((),((x.1.1,(x.1.2.1,(v7,(x.1.2.2.2.1,(x.1.2.2.2.2.1,(x.1.2.2.2.2.2.1,(x.1.2.2.2.2.2.2.1,(x.1.2.2.2.2.2.2.2.1,(x.1.2.2.2.2.2.2.2.2.1,()))))))))),()))
   else none
  else
   if (x.2.1==(10:Int)) then
    if 0≤x.2.1∧x.2.1< ((x.1.2.2.1.length:Nat):Int) then
     ((x.1.2.2.1)[(x.2.1).toNat]?).bind fun y8=>
     let v9:=(x.1.2.2.1.set (x.2.1).toNat (0:Int))
     if (leI r1.1.1 (8:Int)) then
      if 0≤x.2.1∧x.2.1< ((v9.length:Nat):Int) then
       ((v9)[(x.2.1).toNat]?).bind fun y10=>
       let v11:=(v9.set (x.2.1).toNat r1.1.1)
       some ((),((x.1.1,(x.1.2.1,(v11,(x.1.2.2.2.1,(x.1.2.2.2.2.1,(x.1.2.2.2.2.2.1,(x.1.2.2.2.2.2.2.1,(x.1.2.2.2.2.2.2.2.1,(x.1.2.2.2.2.2.2.2.2.1,()))))))))),()))
      else none
     else
      some ((),((x.1.1,(x.1.2.1,(v9,(x.1.2.2.2.1,(x.1.2.2.2.2.1,(x.1.2.2.2.2.2.1,(x.1.2.2.2.2.2.2.1,(x.1.2.2.2.2.2.2.2.1,(x.1.2.2.2.2.2.2.2.2.1,()))))))))),()))
    else none
   else
    if (x.2.1==(6:Int)) then
     let v12:=((r1.1.1).tmod (4:Int))
     if (leI (2:Int) v12) then
      some ((),((x.1.1,(x.1.2.1,(x.1.2.2.1,(x.1.2.2.2.1,(x.1.2.2.2.2.1,(false,(x.1.2.2.2.2.2.2.1,(x.1.2.2.2.2.2.2.2.1,(x.1.2.2.2.2.2.2.2.2.1,()))))))))),()))
     else
      some ((),(x.1,()))
    else
     if (x.2.1==(8:Int)) then
      some ((),(x.1,()))
     else
      if 0≤x.2.1∧x.2.1< ((x.1.2.2.1.length:Nat):Int) then
       ((x.1.2.2.1)[(x.2.1).toNat]?).bind fun y13=>
       let v14:=(x.1.2.2.1.set (x.2.1).toNat r1.1.1)
       some ((),((x.1.1,(x.1.2.1,(v14,(x.1.2.2.2.1,(x.1.2.2.2.2.1,(x.1.2.2.2.2.2.1,(x.1.2.2.2.2.2.2.1,(x.1.2.2.2.2.2.2.2.1,(x.1.2.2.2.2.2.2.2.2.1,()))))))))),()))
      else none
abbrev C_eo:Con:=⟨P_dx,R_ap,F_eo,false⟩
theorem g_eo:Qg Tryz.prog G_ek:=(Qa s_ej Qd)
theorem s_eo:Qb Tryz.prog 237 C_eo:=fnC (L:=[]) hT g_eo Tryz.f237 okP fun _=>by kernel_rfl
def F_ep (x:denP P_dx):FO P_dx R_c:=
 (F_ej (x.2.2.1,())).bind fun r1=>
 if (x.2.1==(0:Int)) then
  let v2:=((x.1.2.2.2.2.2.2.2.2.1.length:Nat):Int)
  if (ltI v2 (40:Int)) then
   (F_dg (x.1.2.2.2.2.2.2.2.2.1,())).bind fun r3=>
   if (r3.1.1.length+[r1.1.1].length)*8≤140737488355328 then
    let v4:=(r3.1.1++[r1.1.1])
    some (((-1:Int),()),((x.1.1,(x.1.2.1,(x.1.2.2.1,(x.1.2.2.2.1,(x.1.2.2.2.2.1,(x.1.2.2.2.2.2.1,(x.1.2.2.2.2.2.2.1,(x.1.2.2.2.2.2.2.2.1,(v4,()))))))))),()))
   else none
  else
   some (((-1:Int),()),(x.1,()))
 else
  if (x.2.1==(3:Int)) then
   (F_eo (x.1,(9:Int),r1.1.1,())).bind fun r5=>
   some (((-1:Int),()),(r5.2.1,()))
  else
   if (x.2.1==(4:Int)) then
    (F_eo (x.1,(6:Int),r1.1.1,())).bind fun r6=>
    some (((-1:Int),()),(r6.2.1,()))
   else
    if (x.2.1==(5:Int)) then
     some ((r1.1.1,()),(x.1,()))
    else
     some (((-1:Int),()),(x.1,()))
abbrev C_ep:Con:=⟨P_dx,R_c,F_ep,false⟩
abbrev G_ep:Env:=[(87,C_dg),(237,C_eo),(256,C_ej)]
theorem g_ep:Qg Tryz.prog G_ep:=(Qa s_dg (Qa s_eo (Qa s_ej Qd)))
theorem s_ep:Qb Tryz.prog 258 C_ep:=fnC (L:=[]) hT g_ep Tryz.f258 okP fun _=>by kernel_rfl
def F_eq (x:denP P_dy):FO P_dy R_a:=
 (F_eg ((x.1.1,(x.1.2.1,(x.1.2.2.1,(x.1.2.2.2.1,(x.1.2.2.2.2.1,(x.1.2.2.2.2.2.1,(x.1.2.2.2.2.2.2.1,(x.1.2.2.2.2.2.2.2.1,(x.1.2.2.2.2.2.2.2.2.1,()))))))))),x.1.2.2.2.2.2.2.2.2.2.1,x.1.2.2.2.2.2.2.2.2.2.2.1,x.2.1,(2:Int),())).bind fun r1=>
 if (r1.1.1.1 !=(0:Int)) then
  (F_dy (x.1,(4:Int),x.2.1,())).bind fun r2=>
  some ((false,()),(r2.2.1,()))
 else
  if (leI (1000:Int) r1.1.1.2.1) then
   let v3:=(IntKind.i64.wrap (r1.1.1.2.1-(1000:Int)))
   (F_ep ((x.1.1,(x.1.2.1,(x.1.2.2.1,(x.1.2.2.2.1,(x.1.2.2.2.2.1,(x.1.2.2.2.2.2.1,(x.1.2.2.2.2.2.2.1,(x.1.2.2.2.2.2.2.2.1,(x.1.2.2.2.2.2.2.2.2.1,()))))))))),v3,x.2.2.1,())).bind fun r4=>
   some ((true,()),((r4.2.1.1,(r4.2.1.2.1,(r4.2.1.2.2.1,(r4.2.1.2.2.2.1,(r4.2.1.2.2.2.2.1,(r4.2.1.2.2.2.2.2.1,(r4.2.1.2.2.2.2.2.2.1,(r4.2.1.2.2.2.2.2.2.2.1,(r4.2.1.2.2.2.2.2.2.2.2.1,(x.1.2.2.2.2.2.2.2.2.2.1,(x.1.2.2.2.2.2.2.2.2.2.2.1,(x.1.2.2.2.2.2.2.2.2.2.2.2.1,(r4.1.1,()))))))))))))),()))
  else
   if 0≤r1.1.1.2.1∧r1.1.1.2.1< ((x.1.2.2.2.2.2.2.2.2.2.2.1.length:Nat):Int) then
    ((x.1.2.2.2.2.2.2.2.2.2.2.1)[(r1.1.1.2.1).toNat]?).bind fun y5=>
    let v6:=(x.1.2.2.2.2.2.2.2.2.2.2.1.set (r1.1.1.2.1).toNat x.2.2.1)
    some ((true,()),((x.1.1,(x.1.2.1,(x.1.2.2.1,(x.1.2.2.2.1,(x.1.2.2.2.2.1,(x.1.2.2.2.2.2.1,(x.1.2.2.2.2.2.2.1,(x.1.2.2.2.2.2.2.2.1,(x.1.2.2.2.2.2.2.2.2.1,(x.1.2.2.2.2.2.2.2.2.2.1,(v6,(x.1.2.2.2.2.2.2.2.2.2.2.2.1,(x.1.2.2.2.2.2.2.2.2.2.2.2.2.1,()))))))))))))),()))
   else none
abbrev C_eq:Con:=⟨P_dy,R_a,F_eq,false⟩
abbrev G_eq:Env:=[(185,C_dy),(187,C_eg),(258,C_ep)]
theorem g_eq:Qg Tryz.prog G_eq:=(Qa s_dy (Qa s_eg (Qa s_ep Qd)))
theorem s_eq:Qb Tryz.prog 234 C_eq:=fnC (L:=[]) hT g_eq Tryz.f234 okP fun _=>by kernel_rfl
def F_er (x:denP P_n):FO P_n R_c:=
 (F_ej (x.1,())).bind fun r1=>
 if (ltI r1.1.1 (2147483648:Int)) then
  some ((r1.1.1,()),())
 else
  let v2:=(IntKind.i64.wrap (r1.1.1-(4294967295:Int)))
  let v3:=(IntKind.i64.wrap (v2-(1:Int)))
  some ((v3,()),())
abbrev C_er:Con:=⟨P_n,R_c,F_er,false⟩
theorem g_er:Qg Tryz.prog G_ek:=(Qa s_ej Qd)
theorem s_er:Qb Tryz.prog 235 C_er:=fnC (L:=[]) hT g_er Tryz.f235 okP fun _=>by kernel_rfl
def F_es (x:denP P_bh):FO P_bh R_c:=
 if (x.2.1==(6:Int)) then
  (F_du (x.1,())).bind fun r1=>
  some ((r1.1.1,()),())
 else
  if (x.2.1==(8:Int)) then
   some ((x.1.2.2.2.2.2.2.1,()),())
  else
   if 0≤x.2.1 then
    ((x.1.2.2.1)[(x.2.1).toNat]?).bind fun y2=>
    some ((y2,()),())
   else none
abbrev C_es:Con:=⟨P_bh,R_c,F_es,false⟩
abbrev G_es:Env:=[(186,C_du)]
theorem g_es:Qg Tryz.prog G_es:=(Qa s_du Qd)
theorem s_es:Qb Tryz.prog 236 C_es:=fnC (L:=[]) hT g_es Tryz.f236 okP fun _=>by kernel_rfl
abbrev P_et:List PK:=[.box [.own 2 YI,.dat YI,.own 2 YI,.dat .bool,.dat .bool,.dat .bool,.dat YI,.own 2 YI,.own 2 YI] [.own 2 YI,.dat YI,.own 2 YI,.dat .bool,.dat .bool,.dat .bool,.dat YI,.own 2 YI,.own 2 YI]]
def F_et (x:denP P_et):FO P_et R_ap:=
 if 0≤(2:Int)∧(2:Int)< ((x.1.2.2.1.length:Nat):Int) then
  ((x.1.2.2.1)[((2:Int)).toNat]?).bind fun y1=>
  if 0≤(0:Int)∧(0:Int)< ((x.1.2.2.1.length:Nat):Int) then
   ((x.1.2.2.1)[((0:Int)).toNat]?).bind fun y2=>
   let v3:=(IntKind.i64.wrap ((y2).tdiv (2:Int)))
   let v4:=(IntKind.i64.wrap ((2:Int)+v3))
   if 0≤(0:Int)∧(0:Int)< ((x.1.2.2.1.length:Nat):Int) then
    ((x.1.2.2.1)[((0:Int)).toNat]?).bind fun y5=>
    let v6:=(x.1.2.2.1.set ((0:Int)).toNat v4)
    some ((),((x.1.1,(y1,(v6,(x.1.2.2.2.1,(x.1.2.2.2.2.1,(x.1.2.2.2.2.2.1,(x.1.2.2.2.2.2.2.1,(x.1.2.2.2.2.2.2.2.1,(x.1.2.2.2.2.2.2.2.2.1,()))))))))),()))
   else none
  else none
 else none
abbrev C_et:Con:=⟨P_et,R_ap,F_et,false⟩
theorem s_et:Qb Tryz.prog 238 C_et:=fnC (L:=[]) hT g_a Tryz.f238 okP fun _=>by kernel_rfl
def F_eu (x:denP P_ay):FO P_ay R_c:=
 let v1:=(IntKind.u32.wrap x.1)
 let v2:=(IntKind.u32.wrap x.2.1)
 let v3:=(IntKind.u32.wrap (v1*v2))
 let v4:=(IntKind.i64.wrap v3)
 some ((v4,()),())
abbrev C_eu:Con:=⟨P_ay,R_c,F_eu,false⟩
theorem s_eu:Qb Tryz.prog 259 C_eu:=fnC (L:=[]) hT g_a Tryz.f259 okP fun _=>by kernel_rfl
def F_ev (x:denP P_ay):FO P_ay R_c:=
 (F_er (x.1,())).bind fun r1=>
 (F_er (x.2.1,())).bind fun r2=>
 if (r2.1.1==(0:Int)) then
  some (((4294967295:Int),()),())
 else
  if r2.1.1=0 then none else
  let v3:=(IntKind.i64.wrap ((r1.1.1).tdiv r2.1.1))
  (F_ej (v3,())).bind fun r4=>
  some ((r4.1.1,()),())
abbrev C_ev:Con:=⟨P_ay,R_c,F_ev,false⟩
abbrev G_ev:Env:=[(235,C_er),(256,C_ej)]
theorem g_ev:Qg Tryz.prog G_ev:=(Qa s_er (Qa s_ej Qd))
theorem s_ev:Qb Tryz.prog 260 C_ev:=fnC (L:=[]) hT g_ev Tryz.f260 okP fun _=>by kernel_rfl
def F_ew (x:denP P_ay):FO P_ay R_c:=
 (F_er (x.1,())).bind fun r1=>
 (F_er (x.2.1,())).bind fun r2=>
 if (r2.1.1==(0:Int)) then
  (F_ej (x.1,())).bind fun r3=>
  some ((r3.1.1,()),())
 else
  if r2.1.1=0 then none else
  let v4:=((r1.1.1).tmod r2.1.1)
  (F_ej (v4,())).bind fun r5=>
  some ((r5.1.1,()),())
abbrev C_ew:Con:=⟨P_ay,R_c,F_ew,false⟩
theorem g_ew:Qg Tryz.prog G_ev:=(Qa s_er (Qa s_ej Qd))
theorem s_ew:Qb Tryz.prog 261 C_ew:=fnC (L:=[]) hT g_ew Tryz.f261 okP fun _=>by kernel_rfl
def F_ex (x:denP P_e):FO P_e R_r:=
 (F_ej (x.2.1,())).bind fun r1=>
 (F_ej (x.2.2.1,())).bind fun r2=>
 if (x.1==(1:Int)) then
  let v3:=(iand .i64 r1.1.1 r2.1.1)
  some ((((0:Int),(v3,())),()),())
 else
  if (x.1==(2:Int)) then
   let v4:=(ior .i64 r1.1.1 r2.1.1)
   some ((((0:Int),(v4,())),()),())
  else
   if (x.1==(3:Int)) then
    let v5:=(ixor .i64 r1.1.1 r2.1.1)
    some ((((0:Int),(v5,())),()),())
   else
    some ((((3:Int),((0:Int),())),()),())
abbrev C_ex:Con:=⟨P_e,R_r,F_ex,false⟩
theorem g_ex:Qg Tryz.prog G_ek:=(Qa s_ej Qd)
theorem s_ex:Qb Tryz.prog 262 C_ex:=fnC (L:=[]) hT g_ex Tryz.f262 okP fun _=>by kernel_rfl
def F_ey (x:denP P_bn):FO P_bn R_c:=
 (F_ej (x.1,())).bind fun r1=>
 (F_ej (x.2.1,())).bind fun r2=>
 let v3:=((r2.1.1).tmod (32:Int))
 if x.2.2.1 then
  if v3< 0 then none else
  let v4:=(IntKind.i64.wrap (r1.1.1*2 ^ (min (v3).toNat 64)))
  (F_ej (v4,())).bind fun r5=>
  some ((r5.1.1,()),())
 else
  if v3< 0 then none else
  let v6:=((r1.1.1).fdiv (2 ^ (min (v3).toNat 64)))
  some ((v6,()),())
abbrev C_ey:Con:=⟨P_bn,R_c,F_ey,false⟩
theorem g_ey:Qg Tryz.prog G_ek:=(Qa s_ej Qd)
theorem s_ey:Qb Tryz.prog 263 C_ey:=fnC (L:=[]) hT g_ey Tryz.f263 okP fun _=>by kernel_rfl
def F_ez (x:denP P_e):FO P_e R_r:=
 (F_ej (x.2.1,())).bind fun r1=>
 (F_ej (x.2.2.1,())).bind fun r2=>
 if (x.1==(1:Int)) then
  (F_ek (r1.1.1,r2.1.1,())).bind fun r3=>
  some ((((0:Int),(r3.1.1,())),()),())
 else
  if (x.1==(2:Int)) then
   let v4:=(IntKind.i64.wrap (r1.1.1-r2.1.1))
   (F_ej (v4,())).bind fun r5=>
   some ((((0:Int),(r5.1.1,())),()),())
  else
   if (x.1==(3:Int)) then
    (F_eu (r1.1.1,r2.1.1,())).bind fun r6=>
    some ((((0:Int),(r6.1.1,())),()),())
   else
    if (x.1==(4:Int)) then
     (F_ev (r1.1.1,r2.1.1,())).bind fun r7=>
     some ((((0:Int),(r7.1.1,())),()),())
    else
     if (x.1==(5:Int)) then
      (F_ew (r1.1.1,r2.1.1,())).bind fun r8=>
      some ((((0:Int),(r8.1.1,())),()),())
     else
      if (x.1==(6:Int)) then
       let v9:=(IntKind.i64.wrap (x.1-(6:Int)))
       let v10:=(IntKind.i64.wrap (v9+(1:Int)))
       (F_ex (v10,r1.1.1,r2.1.1,())).bind fun r11=>
       some ((r11.1.1,()),())
      else
       if (x.1==(7:Int)) then
        let v12:=(IntKind.i64.wrap (x.1-(6:Int)))
        let v13:=(IntKind.i64.wrap (v12+(1:Int)))
        (F_ex (v13,r1.1.1,r2.1.1,())).bind fun r14=>
        some ((r14.1.1,()),())
       else
        if (x.1==(8:Int)) then
         let v15:=(IntKind.i64.wrap (x.1-(6:Int)))
         let v16:=(IntKind.i64.wrap (v15+(1:Int)))
         (F_ex (v16,r1.1.1,r2.1.1,())).bind fun r17=>
         some ((r17.1.1,()),())
        else
         if (x.1==(9:Int)) then
          (F_ey (r1.1.1,r2.1.1,(x.1==(9:Int)),())).bind fun r18=>
          some ((((0:Int),(r18.1.1,())),()),())
         else
          if (x.1==(10:Int)) then
           (F_ey (r1.1.1,r2.1.1,(x.1==(9:Int)),())).bind fun r19=>
           some ((((0:Int),(r19.1.1,())),()),())
          else
           if (x.1==(11:Int)) then
            (F_er (r1.1.1,())).bind fun r20=>
            (F_er (r2.1.1,())).bind fun r21=>
            if (ltI r20.1.1 r21.1.1) then
             some ((((0:Int),((1:Int),())),()),())
            else
             some ((((0:Int),((0:Int),())),()),())
           else
            some ((((3:Int),((0:Int),())),()),())
abbrev C_ez:Con:=⟨P_e,R_r,F_ez,false⟩
abbrev G_ez:Env:=[(231,C_ek),(235,C_er),(256,C_ej),(259,C_eu),(260,C_ev),(261,C_ew),(262,C_ex),(263,C_ey)]
theorem g_ez:Qg Tryz.prog G_ez:=(Qa s_ek (Qa s_er (Qa s_ej (Qa s_eu (Qa s_ev (Qa s_ew (Qa s_ex (Qa s_ey Qd))))))))
theorem s_ez:Qb Tryz.prog 239 C_ez:=fnC (L:=[]) hT g_ez Tryz.f239 okP fun _=>by kernel_rfl
def F_fa (x:denP P_n):FO P_n R_a:=
 (F_cb (x.1,(1:Int),(14:Int),())).bind fun r1=>
 if r1.1.1=false then
  (F_cb (x.1,(19:Int),(21:Int),())).bind fun r2=>
  some ((r2.1.1,()),())
 else
  some ((true,()),())
abbrev C_fa:Con:=⟨P_n,R_a,F_fa,false⟩
theorem g_fa:Qg Tryz.prog G_cc:=(Qa s_cb Qd)
theorem s_fa:Qb Tryz.prog 240 C_fa:=fnC (L:=[]) hT g_fa Tryz.f240 okP fun _=>by kernel_rfl
abbrev P_fb:List PK:=[.box [.own 2 YI,.dat YI,.own 2 YI,.dat .bool,.dat .bool,.dat .bool,.dat YI,.own 2 YI,.own 2 YI,.dat Y26,.own 2 YI,.dat YI,.dat YI] [.own 2 YI,.dat YI,.own 2 YI,.dat .bool,.dat .bool,.dat .bool,.dat YI,.own 2 YI,.own 2 YI,.dat Y26,.own 2 YI,.dat YI,.dat YI],.val Y186]
abbrev i_fb_100000:Shp:={ slots:=[(0,.s (.ptr 9000000 0)),(3,.s (.ptr 3 0)),(5,.s (.dat YI)),(6,.s (.dat YI)),(7,.s (.dat YI)),(8,.s (.dat YI)),(9,.s (.dat YI)),(10,.s (.dat YI)),(11,.s (.dat YI)),(12,.s (.dat YI)),(56,.s (.dat YI))],boxes:=[(3,[.dat YI,.dat YI,.dat YI,.dat YI]),(9000000,[.own 2 YI,.dat YI,.own 2 YI,.dat .bool,.dat .bool,.dat .bool,.dat YI,.own 2 YI,.own 2 YI,.dat Y26,.own 2 YI,.dat YI,.dat YI])],rows:=[] }
abbrev o_fb_100000:List (Ex×Shp):=[(.normal,{ slots:=[(0,.s (.ptr 9000000 0)),(3,.s (.ptr 3 0)),(6,.s (.dat YI)),(11,.s (.dat YI))],boxes:=[(3,[.dat YI,.dat YI,.dat YI,.dat YI]),(9000000,[.own 2 YI,.dat YI,.own 2 YI,.dat .bool,.dat .bool,.dat .bool,.dat YI,.own 2 YI,.own 2 YI,.dat Y26,.own 2 YI,.dat YI,.dat YI])],rows:=[] }),(.ret,{ slots:=[(4,.s (.dat .bool))],boxes:=[(9000000,[.own 2 YI,.dat YI,.own 2 YI,.dat .bool,.dat .bool,.dat .bool,.dat YI,.own 2 YI,.own 2 YI,.dat Y26,.own 2 YI,.dat YI,.dat YI])],rows:=[] })]
def L_fb_100000 (u100000:i_fb_100000.den):Option (denO o_fb_100000):=
 if (u100000.1.2.2.2.2.2.2.2.2.2.2.1==(12:Int)) then
  some (.inl (((),((),(u100000.1.2.2.2.1,(u100000.1.2.2.2.2.2.2.2.1,())))),((u100000.2.1.1,(u100000.2.1.2.1,())),())))
 else
  if (u100000.1.2.2.2.2.2.2.2.2.2.2.1==(13:Int)) then
   let v40:=(IntKind.i64.wrap (u100000.2.1.1.2.2.2.1*(65536:Int)))
   some (.inl (((),((),(u100000.1.2.2.2.1,(v40,())))),((u100000.2.1.1,(u100000.2.1.2.1,())),())))
  else
   if (u100000.1.2.2.2.2.2.2.2.2.2.2.1==(14:Int)) then
    (F_en (u100000.2.1.2.1,u100000.1.2.2.2.2.2.2.2.1,())).bind fun r41=>
    if (!r41.1.2.1) then
     some (.inr (.inl ((false,()),((r41.2.1,()),()))))
    else
     some (.inl (((),((),(u100000.1.2.2.2.1,(r41.1.1,())))),((u100000.2.1.1,(r41.2.1,())),())))
   else
    if (u100000.1.2.2.2.2.2.2.2.2.2.2.1==(15:Int)) then
     (F_eq (u100000.2.1.2.1,u100000.1.2.2.2.2.2.2.2.1,u100000.1.2.2.2.2.2.1,())).bind fun r42=>
     if (!r42.1.1) then
      some (.inr (.inl ((false,()),((r42.2.1,()),()))))
     else
      some (.inl (((),((),(u100000.1.2.2.2.1,(u100000.1.2.2.2.2.2.2.2.2.1,())))),((u100000.2.1.1,(r42.2.1,())),())))
    else
     if (u100000.1.2.2.2.2.2.2.2.2.2.2.1==(16:Int)) then
      if (u100000.1.2.2.2.2.2.2.2.2.2.1==(16:Int))=true then
       if (u100000.1.2.2.2.2.2.1==u100000.1.2.2.2.2.2.2.1)=false then
        if (u100000.1.2.2.2.2.2.2.2.2.2.1==(17:Int))=true then
         if (u100000.1.2.2.2.2.2.1 !=u100000.1.2.2.2.2.2.2.1)=false then
          if (u100000.1.2.2.2.2.2.2.2.2.2.1==(18:Int))=true then
           (F_er (u100000.1.2.2.2.2.2.1,())).bind fun r43=>
           (F_er (u100000.1.2.2.2.2.2.2.1,())).bind fun r44=>
           if (ltI r43.1.1 r44.1.1) then
            some (.inl (((),((),(u100000.1.2.2.2.2.1,(u100000.1.2.2.2.2.2.2.2.2.1,())))),((u100000.2.1.1,(u100000.2.1.2.1,())),())))
           else
            some (.inl (((),((),(u100000.1.2.2.2.1,(u100000.1.2.2.2.2.2.2.2.2.1,())))),((u100000.2.1.1,(u100000.2.1.2.1,())),())))
          else
           some (.inl (((),((),(u100000.1.2.2.2.1,(u100000.1.2.2.2.2.2.2.2.2.1,())))),((u100000.2.1.1,(u100000.2.1.2.1,())),())))
         else
          some (.inl (((),((),(u100000.1.2.2.2.2.1,(u100000.1.2.2.2.2.2.2.2.2.1,())))),((u100000.2.1.1,(u100000.2.1.2.1,())),())))
        else
         if (u100000.1.2.2.2.2.2.2.2.2.2.1==(18:Int))=true then
          (F_er (u100000.1.2.2.2.2.2.1,())).bind fun r45=>
          (F_er (u100000.1.2.2.2.2.2.2.1,())).bind fun r46=>
          if (ltI r45.1.1 r46.1.1) then
           some (.inl (((),((),(u100000.1.2.2.2.2.1,(u100000.1.2.2.2.2.2.2.2.2.1,())))),((u100000.2.1.1,(u100000.2.1.2.1,())),())))
          else
           some (.inl (((),((),(u100000.1.2.2.2.1,(u100000.1.2.2.2.2.2.2.2.2.1,())))),((u100000.2.1.1,(u100000.2.1.2.1,())),())))
         else
          some (.inl (((),((),(u100000.1.2.2.2.1,(u100000.1.2.2.2.2.2.2.2.2.1,())))),((u100000.2.1.1,(u100000.2.1.2.1,())),())))
       else
        some (.inl (((),((),(u100000.1.2.2.2.2.1,(u100000.1.2.2.2.2.2.2.2.2.1,())))),((u100000.2.1.1,(u100000.2.1.2.1,())),())))
      else
       if (u100000.1.2.2.2.2.2.2.2.2.2.1==(17:Int))=true then
        if (u100000.1.2.2.2.2.2.1 !=u100000.1.2.2.2.2.2.2.1)=false then
         if (u100000.1.2.2.2.2.2.2.2.2.2.1==(18:Int))=true then
          (F_er (u100000.1.2.2.2.2.2.1,())).bind fun r47=>
          (F_er (u100000.1.2.2.2.2.2.2.1,())).bind fun r48=>
          if (ltI r47.1.1 r48.1.1) then
           some (.inl (((),((),(u100000.1.2.2.2.2.1,(u100000.1.2.2.2.2.2.2.2.2.1,())))),((u100000.2.1.1,(u100000.2.1.2.1,())),())))
          else
           some (.inl (((),((),(u100000.1.2.2.2.1,(u100000.1.2.2.2.2.2.2.2.2.1,())))),((u100000.2.1.1,(u100000.2.1.2.1,())),())))
         else
          some (.inl (((),((),(u100000.1.2.2.2.1,(u100000.1.2.2.2.2.2.2.2.2.1,())))),((u100000.2.1.1,(u100000.2.1.2.1,())),())))
        else
         some (.inl (((),((),(u100000.1.2.2.2.2.1,(u100000.1.2.2.2.2.2.2.2.2.1,())))),((u100000.2.1.1,(u100000.2.1.2.1,())),())))
       else
        if (u100000.1.2.2.2.2.2.2.2.2.2.1==(18:Int))=true then
         (F_er (u100000.1.2.2.2.2.2.1,())).bind fun r49=>
         (F_er (u100000.1.2.2.2.2.2.2.1,())).bind fun r50=>
         if (ltI r49.1.1 r50.1.1) then
          some (.inl (((),((),(u100000.1.2.2.2.2.1,(u100000.1.2.2.2.2.2.2.2.2.1,())))),((u100000.2.1.1,(u100000.2.1.2.1,())),())))
         else
          some (.inl (((),((),(u100000.1.2.2.2.1,(u100000.1.2.2.2.2.2.2.2.2.1,())))),((u100000.2.1.1,(u100000.2.1.2.1,())),())))
        else
         some (.inl (((),((),(u100000.1.2.2.2.1,(u100000.1.2.2.2.2.2.2.2.2.1,())))),((u100000.2.1.1,(u100000.2.1.2.1,())),())))
     else
      if (u100000.1.2.2.2.2.2.2.2.2.2.2.1==(17:Int)) then
       if (u100000.1.2.2.2.2.2.2.2.2.2.1==(16:Int))=true then
        if (u100000.1.2.2.2.2.2.1==u100000.1.2.2.2.2.2.2.1)=false then
         if (u100000.1.2.2.2.2.2.2.2.2.2.1==(17:Int))=true then
          if (u100000.1.2.2.2.2.2.1 !=u100000.1.2.2.2.2.2.2.1)=false then
           if (u100000.1.2.2.2.2.2.2.2.2.2.1==(18:Int))=true then
            (F_er (u100000.1.2.2.2.2.2.1,())).bind fun r51=>
            (F_er (u100000.1.2.2.2.2.2.2.1,())).bind fun r52=>
            if (ltI r51.1.1 r52.1.1) then
             some (.inl (((),((),(u100000.1.2.2.2.2.1,(u100000.1.2.2.2.2.2.2.2.2.1,())))),((u100000.2.1.1,(u100000.2.1.2.1,())),())))
            else
             some (.inl (((),((),(u100000.1.2.2.2.1,(u100000.1.2.2.2.2.2.2.2.2.1,())))),((u100000.2.1.1,(u100000.2.1.2.1,())),())))
           else
            some (.inl (((),((),(u100000.1.2.2.2.1,(u100000.1.2.2.2.2.2.2.2.2.1,())))),((u100000.2.1.1,(u100000.2.1.2.1,())),())))
          else
           some (.inl (((),((),(u100000.1.2.2.2.2.1,(u100000.1.2.2.2.2.2.2.2.2.1,())))),((u100000.2.1.1,(u100000.2.1.2.1,())),())))
         else
          if (u100000.1.2.2.2.2.2.2.2.2.2.1==(18:Int))=true then
           (F_er (u100000.1.2.2.2.2.2.1,())).bind fun r53=>
           (F_er (u100000.1.2.2.2.2.2.2.1,())).bind fun r54=>
           if (ltI r53.1.1 r54.1.1) then
            some (.inl (((),((),(u100000.1.2.2.2.2.1,(u100000.1.2.2.2.2.2.2.2.2.1,())))),((u100000.2.1.1,(u100000.2.1.2.1,())),())))
           else
            some (.inl (((),((),(u100000.1.2.2.2.1,(u100000.1.2.2.2.2.2.2.2.2.1,())))),((u100000.2.1.1,(u100000.2.1.2.1,())),())))
          else
           some (.inl (((),((),(u100000.1.2.2.2.1,(u100000.1.2.2.2.2.2.2.2.2.1,())))),((u100000.2.1.1,(u100000.2.1.2.1,())),())))
        else
         some (.inl (((),((),(u100000.1.2.2.2.2.1,(u100000.1.2.2.2.2.2.2.2.2.1,())))),((u100000.2.1.1,(u100000.2.1.2.1,())),())))
       else
        if (u100000.1.2.2.2.2.2.2.2.2.2.1==(17:Int))=true then
         if (u100000.1.2.2.2.2.2.1 !=u100000.1.2.2.2.2.2.2.1)=false then
          if (u100000.1.2.2.2.2.2.2.2.2.2.1==(18:Int))=true then
           (F_er (u100000.1.2.2.2.2.2.1,())).bind fun r55=>
           (F_er (u100000.1.2.2.2.2.2.2.1,())).bind fun r56=>
           if (ltI r55.1.1 r56.1.1) then
            some (.inl (((),((),(u100000.1.2.2.2.2.1,(u100000.1.2.2.2.2.2.2.2.2.1,())))),((u100000.2.1.1,(u100000.2.1.2.1,())),())))
           else
            some (.inl (((),((),(u100000.1.2.2.2.1,(u100000.1.2.2.2.2.2.2.2.2.1,())))),((u100000.2.1.1,(u100000.2.1.2.1,())),())))
          else
           some (.inl (((),((),(u100000.1.2.2.2.1,(u100000.1.2.2.2.2.2.2.2.2.1,())))),((u100000.2.1.1,(u100000.2.1.2.1,())),())))
         else
          some (.inl (((),((),(u100000.1.2.2.2.2.1,(u100000.1.2.2.2.2.2.2.2.2.1,())))),((u100000.2.1.1,(u100000.2.1.2.1,())),())))
        else
         if (u100000.1.2.2.2.2.2.2.2.2.2.1==(18:Int))=true then
          (F_er (u100000.1.2.2.2.2.2.1,())).bind fun r57=>
          (F_er (u100000.1.2.2.2.2.2.2.1,())).bind fun r58=>
          if (ltI r57.1.1 r58.1.1) then
           some (.inl (((),((),(u100000.1.2.2.2.2.1,(u100000.1.2.2.2.2.2.2.2.2.1,())))),((u100000.2.1.1,(u100000.2.1.2.1,())),())))
          else
           some (.inl (((),((),(u100000.1.2.2.2.1,(u100000.1.2.2.2.2.2.2.2.2.1,())))),((u100000.2.1.1,(u100000.2.1.2.1,())),())))
         else
          some (.inl (((),((),(u100000.1.2.2.2.1,(u100000.1.2.2.2.2.2.2.2.2.1,())))),((u100000.2.1.1,(u100000.2.1.2.1,())),())))
      else
       if (u100000.1.2.2.2.2.2.2.2.2.2.2.1==(18:Int)) then
        if (u100000.1.2.2.2.2.2.2.2.2.2.1==(16:Int))=true then
         if (u100000.1.2.2.2.2.2.1==u100000.1.2.2.2.2.2.2.1)=false then
          if (u100000.1.2.2.2.2.2.2.2.2.2.1==(17:Int))=true then
           if (u100000.1.2.2.2.2.2.1 !=u100000.1.2.2.2.2.2.2.1)=false then
            if (u100000.1.2.2.2.2.2.2.2.2.2.1==(18:Int))=true then
             (F_er (u100000.1.2.2.2.2.2.1,())).bind fun r59=>
             (F_er (u100000.1.2.2.2.2.2.2.1,())).bind fun r60=>
             if (ltI r59.1.1 r60.1.1) then
              some (.inl (((),((),(u100000.1.2.2.2.2.1,(u100000.1.2.2.2.2.2.2.2.2.1,())))),((u100000.2.1.1,(u100000.2.1.2.1,())),())))
             else
              some (.inl (((),((),(u100000.1.2.2.2.1,(u100000.1.2.2.2.2.2.2.2.2.1,())))),((u100000.2.1.1,(u100000.2.1.2.1,())),())))
            else
             some (.inl (((),((),(u100000.1.2.2.2.1,(u100000.1.2.2.2.2.2.2.2.2.1,())))),((u100000.2.1.1,(u100000.2.1.2.1,())),())))
           else
            some (.inl (((),((),(u100000.1.2.2.2.2.1,(u100000.1.2.2.2.2.2.2.2.2.1,())))),((u100000.2.1.1,(u100000.2.1.2.1,())),())))
          else
           if (u100000.1.2.2.2.2.2.2.2.2.2.1==(18:Int))=true then
            (F_er (u100000.1.2.2.2.2.2.1,())).bind fun r61=>
            (F_er (u100000.1.2.2.2.2.2.2.1,())).bind fun r62=>
            if (ltI r61.1.1 r62.1.1) then
             some (.inl (((),((),(u100000.1.2.2.2.2.1,(u100000.1.2.2.2.2.2.2.2.2.1,())))),((u100000.2.1.1,(u100000.2.1.2.1,())),())))
            else
             some (.inl (((),((),(u100000.1.2.2.2.1,(u100000.1.2.2.2.2.2.2.2.2.1,())))),((u100000.2.1.1,(u100000.2.1.2.1,())),())))
           else
            some (.inl (((),((),(u100000.1.2.2.2.1,(u100000.1.2.2.2.2.2.2.2.2.1,())))),((u100000.2.1.1,(u100000.2.1.2.1,())),())))
         else
          some (.inl (((),((),(u100000.1.2.2.2.2.1,(u100000.1.2.2.2.2.2.2.2.2.1,())))),((u100000.2.1.1,(u100000.2.1.2.1,())),())))
        else
         if (u100000.1.2.2.2.2.2.2.2.2.2.1==(17:Int))=true then
          if (u100000.1.2.2.2.2.2.1 !=u100000.1.2.2.2.2.2.2.1)=false then
           if (u100000.1.2.2.2.2.2.2.2.2.2.1==(18:Int))=true then
            (F_er (u100000.1.2.2.2.2.2.1,())).bind fun r63=>
            (F_er (u100000.1.2.2.2.2.2.2.1,())).bind fun r64=>
            if (ltI r63.1.1 r64.1.1) then
             some (.inl (((),((),(u100000.1.2.2.2.2.1,(u100000.1.2.2.2.2.2.2.2.2.1,())))),((u100000.2.1.1,(u100000.2.1.2.1,())),())))
            else
             some (.inl (((),((),(u100000.1.2.2.2.1,(u100000.1.2.2.2.2.2.2.2.2.1,())))),((u100000.2.1.1,(u100000.2.1.2.1,())),())))
           else
            some (.inl (((),((),(u100000.1.2.2.2.1,(u100000.1.2.2.2.2.2.2.2.2.1,())))),((u100000.2.1.1,(u100000.2.1.2.1,())),())))
          else
           some (.inl (((),((),(u100000.1.2.2.2.2.1,(u100000.1.2.2.2.2.2.2.2.2.1,())))),((u100000.2.1.1,(u100000.2.1.2.1,())),())))
         else
          if (u100000.1.2.2.2.2.2.2.2.2.2.1==(18:Int))=true then
           (F_er (u100000.1.2.2.2.2.2.1,())).bind fun r65=>
           (F_er (u100000.1.2.2.2.2.2.2.1,())).bind fun r66=>
           if (ltI r65.1.1 r66.1.1) then
            some (.inl (((),((),(u100000.1.2.2.2.2.1,(u100000.1.2.2.2.2.2.2.2.2.1,())))),((u100000.2.1.1,(u100000.2.1.2.1,())),())))
           else
            some (.inl (((),((),(u100000.1.2.2.2.1,(u100000.1.2.2.2.2.2.2.2.2.1,())))),((u100000.2.1.1,(u100000.2.1.2.1,())),())))
          else
           some (.inl (((),((),(u100000.1.2.2.2.1,(u100000.1.2.2.2.2.2.2.2.2.1,())))),((u100000.2.1.1,(u100000.2.1.2.1,())),())))
       else
        if (u100000.1.2.2.2.2.2.2.2.2.2.2.1==(19:Int)) then
         some (.inl (((),((),(u100000.1.2.2.2.2.1,(u100000.1.2.2.2.1,())))),((u100000.2.1.1,(u100000.2.1.2.1,())),())))
        else
         if (u100000.1.2.2.2.2.2.2.2.2.2.2.1==(20:Int)) then
          some (.inl (((),((),(u100000.1.2.2.2.2.2.2.2.1,(u100000.1.2.2.2.1,())))),((u100000.2.1.1,(u100000.2.1.2.1,())),())))
         else
          if (u100000.1.2.2.2.2.2.2.2.2.2.2.1==(21:Int)) then
           (F_es ((u100000.2.1.2.1.1,(u100000.2.1.2.1.2.1,(u100000.2.1.2.1.2.2.1,(u100000.2.1.2.1.2.2.2.1,(u100000.2.1.2.1.2.2.2.2.1,(u100000.2.1.2.1.2.2.2.2.2.1,(u100000.2.1.2.1.2.2.2.2.2.2.1,(u100000.2.1.2.1.2.2.2.2.2.2.2.1,(u100000.2.1.2.1.2.2.2.2.2.2.2.2.1,()))))))))),u100000.2.1.1.2.2.2.1,())).bind fun r67=>
           some (.inl (((),((),(u100000.1.2.2.2.1,(r67.1.1,())))),((u100000.2.1.1,(u100000.2.1.2.1,())),())))
          else
           if (u100000.1.2.2.2.2.2.2.2.2.2.2.1==(22:Int)) then
            (F_eo ((u100000.2.1.2.1.1,(u100000.2.1.2.1.2.1,(u100000.2.1.2.1.2.2.1,(u100000.2.1.2.1.2.2.2.1,(u100000.2.1.2.1.2.2.2.2.1,(u100000.2.1.2.1.2.2.2.2.2.1,(u100000.2.1.2.1.2.2.2.2.2.2.1,(u100000.2.1.2.1.2.2.2.2.2.2.2.1,(u100000.2.1.2.1.2.2.2.2.2.2.2.2.1,()))))))))),u100000.2.1.1.2.2.2.1,u100000.1.2.2.2.2.2.2.1,())).bind fun r68=>
            some (.inl (((),((),(u100000.1.2.2.2.1,(u100000.1.2.2.2.2.2.2.2.2.1,())))),((u100000.2.1.1,((r68.2.1.1,(r68.2.1.2.1,(r68.2.1.2.2.1,(r68.2.1.2.2.2.1,(r68.2.1.2.2.2.2.1,(r68.2.1.2.2.2.2.2.1,(r68.2.1.2.2.2.2.2.2.1,(r68.2.1.2.2.2.2.2.2.2.1,(r68.2.1.2.2.2.2.2.2.2.2.1,(u100000.2.1.2.1.2.2.2.2.2.2.2.2.2.1,(u100000.2.1.2.1.2.2.2.2.2.2.2.2.2.2.1,(u100000.2.1.2.1.2.2.2.2.2.2.2.2.2.2.2.1,(u100000.2.1.2.1.2.2.2.2.2.2.2.2.2.2.2.2.1,()))))))))))))),())),())))
           else
            if (u100000.1.2.2.2.2.2.2.2.2.2.2.1==(23:Int)) then
             (F_dy (u100000.2.1.2.1,(5:Int),(0:Int),())).bind fun r69=>
             some (.inr (.inl ((false,()),((r69.2.1,()),()))))
            else
             if (u100000.1.2.2.2.2.2.2.2.2.2.2.1==(24:Int)) then
              (F_et ((u100000.2.1.2.1.1,(u100000.2.1.2.1.2.1,(u100000.2.1.2.1.2.2.1,(u100000.2.1.2.1.2.2.2.1,(u100000.2.1.2.1.2.2.2.2.1,(u100000.2.1.2.1.2.2.2.2.2.1,(u100000.2.1.2.1.2.2.2.2.2.2.1,(u100000.2.1.2.1.2.2.2.2.2.2.2.1,(u100000.2.1.2.1.2.2.2.2.2.2.2.2.1,()))))))))),())).bind fun r70=>
              some (.inl (((),((),(r70.2.1.2.1,(u100000.1.2.2.2.2.2.2.2.2.1,())))),((u100000.2.1.1,((r70.2.1.1,(r70.2.1.2.1,(r70.2.1.2.2.1,(r70.2.1.2.2.2.1,(r70.2.1.2.2.2.2.1,(r70.2.1.2.2.2.2.2.1,(r70.2.1.2.2.2.2.2.2.1,(r70.2.1.2.2.2.2.2.2.2.1,(r70.2.1.2.2.2.2.2.2.2.2.1,(u100000.2.1.2.1.2.2.2.2.2.2.2.2.2.1,(u100000.2.1.2.1.2.2.2.2.2.2.2.2.2.2.1,(u100000.2.1.2.1.2.2.2.2.2.2.2.2.2.2.2.1,(u100000.2.1.2.1.2.2.2.2.2.2.2.2.2.2.2.2.1,()))))))))))))),())),())))
             else
              if (u100000.1.2.2.2.2.2.2.2.2.2.2.1==(25:Int)) then
               some (.inl (((),((),(u100000.1.2.2.2.1,(u100000.1.2.2.2.2.2.2.2.2.1,())))),((u100000.2.1.1,((u100000.2.1.2.1.1,(u100000.2.1.2.1.2.1,(u100000.2.1.2.1.2.2.1,(u100000.2.1.2.1.2.2.2.1,(true,(u100000.2.1.2.1.2.2.2.2.2.1,(u100000.2.1.2.1.2.2.2.2.2.2.1,(u100000.2.1.2.1.2.2.2.2.2.2.2.1,(u100000.2.1.2.1.2.2.2.2.2.2.2.2.1,(u100000.2.1.2.1.2.2.2.2.2.2.2.2.2.1,(u100000.2.1.2.1.2.2.2.2.2.2.2.2.2.2.1,(u100000.2.1.2.1.2.2.2.2.2.2.2.2.2.2.2.1,(u100000.2.1.2.1.2.2.2.2.2.2.2.2.2.2.2.2.1,()))))))))))))),())),())))
              else
               if (u100000.1.2.2.2.2.2.2.2.2.2.2.1==(26:Int)) then
                some (.inl (((),((),(u100000.1.2.2.1,(u100000.1.2.2.2.2.2.2.2.2.1,())))),((u100000.2.1.1,((u100000.2.1.2.1.1,(u100000.2.1.2.1.2.1,(u100000.2.1.2.1.2.2.1,(true,(u100000.2.1.2.1.2.2.2.2.1,(u100000.2.1.2.1.2.2.2.2.2.1,(u100000.2.1.2.1.2.2.2.2.2.2.1,(u100000.2.1.2.1.2.2.2.2.2.2.2.1,(u100000.2.1.2.1.2.2.2.2.2.2.2.2.1,(u100000.2.1.2.1.2.2.2.2.2.2.2.2.2.1,(u100000.2.1.2.1.2.2.2.2.2.2.2.2.2.2.1,(u100000.2.1.2.1.2.2.2.2.2.2.2.2.2.2.2.1,(u100000.2.1.2.1.2.2.2.2.2.2.2.2.2.2.2.2.1,()))))))))))))),())),())))
               else
                if 0≤u100000.2.1.1.2.2.2.1∧u100000.2.1.1.2.2.2.1< ((u100000.2.1.2.1.1.length:Nat):Int) then
                 ((u100000.2.1.2.1.1)[(u100000.2.1.1.2.2.2.1).toNat]?).bind fun y71=>
                 (F_ez (u100000.1.2.2.2.2.2.2.2.2.2.1,u100000.1.2.2.2.2.2.2.1,y71,())).bind fun r72=>
                 some (.inl (((),((),(u100000.1.2.2.2.1,(r72.1.1.2.1,())))),((u100000.2.1.1,(u100000.2.1.2.1,())),())))
                else none
def F_fb (x:denP P_fb):FO P_fb R_a:=
 (F_ek (x.1.2.1,(1:Int),())).bind fun r1=>
 (F_el (x.2.1.2.2.2.1,())).bind fun r2=>
 (F_ek (x.1.2.1,r2.1.1,())).bind fun r3=>
 if 0≤x.2.1.2.1∧x.2.1.2.1< ((x.1.1.length:Nat):Int) then
  ((x.1.1)[(x.2.1.2.1).toNat]?).bind fun y4=>
  if 0≤x.2.1.2.2.1∧x.2.1.2.2.1< ((x.1.1.length:Nat):Int) then
   ((x.1.1)[(x.2.1.2.2.1).toNat]?).bind fun y5=>
   (F_el (x.2.1.2.2.2.1,())).bind fun r6=>
   (F_ek (y5,r6.1.1,())).bind fun r7=>
   (L_fb_100000 (((),((),(x.1.2.1,(r1.1.1,(r3.1.1,(y4,(y5,(r7.1.1,((0:Int),(x.2.1.1,(x.2.1.1,()))))))))))),(((x.2.1.1,(x.2.1.2.1,(x.2.1.2.2.1,(x.2.1.2.2.2.1,())))),(x.1,())),()))).bind fun z73=>
   match z73 with
   | .inl x74=>
    (F_fa (x74.2.1.1.1,())).bind fun r75=>
    if r75.1.1=true then
     if (ltI (0:Int) x74.2.1.1.2.1) then
      if 0≤x74.2.1.1.2.1∧x74.2.1.1.2.1< ((x74.2.1.2.1.1.length:Nat):Int) then
       ((x74.2.1.2.1.1)[(x74.2.1.1.2.1).toNat]?).bind fun y76=>
       let v77:=(x74.2.1.2.1.1.set (x74.2.1.1.2.1).toNat x74.1.2.2.2.1)
       let v78:=(IntKind.i64.wrap (x74.2.1.2.1.2.2.2.2.2.2.1+(1:Int)))
       let v79:=(if (1000000000:Int)< v78 then (1000000000:Int) else v78)
       some ((true,()),((v77,(x74.1.2.2.1,(x74.2.1.2.1.2.2.1,(x74.2.1.2.1.2.2.2.1,(x74.2.1.2.1.2.2.2.2.1,(x74.2.1.2.1.2.2.2.2.2.1,(v79,(x74.2.1.2.1.2.2.2.2.2.2.2.1,(x74.2.1.2.1.2.2.2.2.2.2.2.2.1,(x74.2.1.2.1.2.2.2.2.2.2.2.2.2.1,(x74.2.1.2.1.2.2.2.2.2.2.2.2.2.2.1,(x74.2.1.2.1.2.2.2.2.2.2.2.2.2.2.2.1,(x74.2.1.2.1.2.2.2.2.2.2.2.2.2.2.2.2.1,()))))))))))))),()))
      else none
     else
      let v80:=(IntKind.i64.wrap (x74.2.1.2.1.2.2.2.2.2.2.1+(1:Int)))
      let v81:=(if (1000000000:Int)< v80 then (1000000000:Int) else v80)
      some ((true,()),((x74.2.1.2.1.1,(x74.1.2.2.1,(x74.2.1.2.1.2.2.1,(x74.2.1.2.1.2.2.2.1,(x74.2.1.2.1.2.2.2.2.1,(x74.2.1.2.1.2.2.2.2.2.1,(v81,(x74.2.1.2.1.2.2.2.2.2.2.2.1,(x74.2.1.2.1.2.2.2.2.2.2.2.2.1,(x74.2.1.2.1.2.2.2.2.2.2.2.2.2.1,(x74.2.1.2.1.2.2.2.2.2.2.2.2.2.2.1,(x74.2.1.2.1.2.2.2.2.2.2.2.2.2.2.2.1,(x74.2.1.2.1.2.2.2.2.2.2.2.2.2.2.2.2.1,()))))))))))))),()))
    else
     let v82:=(IntKind.i64.wrap (x74.2.1.2.1.2.2.2.2.2.2.1+(1:Int)))
     let v83:=(if (1000000000:Int)< v82 then (1000000000:Int) else v82)
     some ((true,()),((x74.2.1.2.1.1,(x74.1.2.2.1,(x74.2.1.2.1.2.2.1,(x74.2.1.2.1.2.2.2.1,(x74.2.1.2.1.2.2.2.2.1,(x74.2.1.2.1.2.2.2.2.2.1,(v83,(x74.2.1.2.1.2.2.2.2.2.2.2.1,(x74.2.1.2.1.2.2.2.2.2.2.2.2.1,(x74.2.1.2.1.2.2.2.2.2.2.2.2.2.1,(x74.2.1.2.1.2.2.2.2.2.2.2.2.2.2.1,(x74.2.1.2.1.2.2.2.2.2.2.2.2.2.2.2.1,(x74.2.1.2.1.2.2.2.2.2.2.2.2.2.2.2.2.1,()))))))))))))),()))
   | .inr z73_=>
    match z73_ with
    | .inl x84=>
     some ((x84.1.1,()),(x84.2.1.1,()))
    | .inr z73__=>
     none
  else none
 else none
abbrev C_fb:Con:=⟨P_fb,R_a,F_fb,false⟩
abbrev G_fb:Env:=[(185,C_dy),(231,C_ek),(232,C_el),(233,C_en),(234,C_eq),(235,C_er),(236,C_es),(237,C_eo),(238,C_et),(239,C_ez),(240,C_fa)]
theorem g_fb:Qg Tryz.prog G_fb:=(Qa s_dy (Qa s_ek (Qa s_el (Qa s_en (Qa s_eq (Qa s_er (Qa s_es (Qa s_eo (Qa s_et (Qa s_ez (Qa s_fa Qd)))))))))))
abbrev c_fb_100000:Cut:=⟨i_fb_100000,o_fb_100000,L_fb_100000⟩
theorem t_fb_100000 (x):run T G_fb [] (nav Tryz.f189 [1,1,1,1,1,1,0,1,1,0]) (mk 214 i_fb_100000 x) (QoO 0 o_fb_100000)=L_fb_100000 x:=by kernel_rfl
theorem k_fb_100000:Qu Tryz.prog 214 (.block 0 (nav Tryz.f189 [1,1,1,1,1,1,0,1,1,0])) c_fb_100000:=
  Qrm (L:=[]) hT g_fb t_fb_100000 okP
theorem r_fb (x):QK T G_fb [(100000,c_fb_100000)] Tryz.f189 C_fb.ps C_fb.rs x=C_fb.F x:=by kernel_rfl
theorem s_fb:Qb Tryz.prog 189 C_fb:=fnC (L:=[(100000,c_fb_100000)]) hT g_fb Tryz.f189 (okS okP (okS okP (okS okP (okS okP (okS okP (okS okP (okS (okS okP (okS okP (okX k_fb_100000))) okP))))))) r_fb
abbrev P_fc:List PK:=[.box [.own 2 YI,.dat YI,.own 2 YI,.dat .bool,.dat .bool,.dat .bool,.dat YI,.own 2 YI,.own 2 YI,.dat Y26,.own 2 YI,.dat YI,.dat YI] [.own 2 YI,.dat YI,.own 2 YI,.dat .bool,.dat .bool,.dat .bool,.dat YI,.own 2 YI,.own 2 YI,.dat Y26,.own 2 YI,.dat YI,.dat YI]]
def F_fc (x:denP P_fc):FO P_fc R_ap:=
 if x.1.2.2.2.1 then
  some ((),((x.1.1,(x.1.2.1,(x.1.2.2.1,(x.1.2.2.2.1,(x.1.2.2.2.2.1,(x.1.2.2.2.2.2.1,(x.1.2.2.2.2.2.2.1,(x.1.2.2.2.2.2.2.2.1,(x.1.2.2.2.2.2.2.2.2.1,(x.1.2.2.2.2.2.2.2.2.2.1,(x.1.2.2.2.2.2.2.2.2.2.2.1,((-1:Int),((-1:Int),()))))))))))))),()))
 else
  (F_dw ((x.1.1,(x.1.2.1,(x.1.2.2.1,(x.1.2.2.2.1,(x.1.2.2.2.2.1,(x.1.2.2.2.2.2.1,(x.1.2.2.2.2.2.2.1,(x.1.2.2.2.2.2.2.2.1,(x.1.2.2.2.2.2.2.2.2.1,()))))))))),())).bind fun r1=>
  if (leI (0:Int) r1.1.1) then
   let v2:=(IntKind.i64.wrap ((16:Int)+r1.1.1))
   (F_dy ((x.1.1,(x.1.2.1,(x.1.2.2.1,(x.1.2.2.2.1,(x.1.2.2.2.2.1,(x.1.2.2.2.2.2.1,(x.1.2.2.2.2.2.2.1,(x.1.2.2.2.2.2.2.2.1,(x.1.2.2.2.2.2.2.2.2.1,(x.1.2.2.2.2.2.2.2.2.2.1,(x.1.2.2.2.2.2.2.2.2.2.2.1,((-1:Int),((-1:Int),()))))))))))))),v2,(0:Int),())).bind fun r3=>
   some ((),(r3.2.1,()))
  else
   if x.1.2.2.2.2.1 then
    (F_du ((x.1.1,(x.1.2.1,(x.1.2.2.1,(x.1.2.2.2.1,(x.1.2.2.2.2.1,(x.1.2.2.2.2.2.1,(x.1.2.2.2.2.2.2.1,(x.1.2.2.2.2.2.2.2.1,(x.1.2.2.2.2.2.2.2.2.1,()))))))))),())).bind fun r4=>
    if 0≤(7:Int)∧(7:Int)< ((x.1.2.2.1.length:Nat):Int) then
     ((x.1.2.2.1)[((7:Int)).toNat]?).bind fun y5=>
     let v6:=(iand .i64 r4.1.1 y5)
     if (v6==(0:Int)) then
      some ((),((x.1.1,(x.1.2.1,(x.1.2.2.1,(x.1.2.2.2.1,(x.1.2.2.2.2.1,(x.1.2.2.2.2.2.1,(x.1.2.2.2.2.2.2.1,(x.1.2.2.2.2.2.2.2.1,(x.1.2.2.2.2.2.2.2.2.1,(x.1.2.2.2.2.2.2.2.2.2.1,(x.1.2.2.2.2.2.2.2.2.2.2.1,((-1:Int),((-1:Int),()))))))))))))),()))
     else
      (F_eg ((x.1.1,(x.1.2.1,(x.1.2.2.1,(x.1.2.2.2.1,(false,(x.1.2.2.2.2.2.1,(x.1.2.2.2.2.2.2.1,(x.1.2.2.2.2.2.2.2.1,(x.1.2.2.2.2.2.2.2.2.1,()))))))))),x.1.2.2.2.2.2.2.2.2.2.1,x.1.2.2.2.2.2.2.2.2.2.2.1,x.1.2.1,(4:Int),())).bind fun r7=>
      if (r7.1.1.1 !=(0:Int)) then
       (F_dy ((x.1.1,(x.1.2.1,(x.1.2.2.1,(x.1.2.2.2.1,(false,(x.1.2.2.2.2.2.1,(x.1.2.2.2.2.2.2.1,(x.1.2.2.2.2.2.2.2.1,(x.1.2.2.2.2.2.2.2.2.1,(x.1.2.2.2.2.2.2.2.2.2.1,(x.1.2.2.2.2.2.2.2.2.2.2.1,((-1:Int),((-1:Int),()))))))))))))),(2:Int),x.1.2.1,())).bind fun r8=>
       some ((),(r8.2.1,()))
      else
       if 0≤r7.1.1.2.1∧r7.1.1.2.1< ((x.1.2.2.2.2.2.2.2.2.2.2.1.length:Nat):Int) then
        ((x.1.2.2.2.2.2.2.2.2.2.2.1)[(r7.1.1.2.1).toNat]?).bind fun y9=>
        (F_ei (y9,())).bind fun r10=>
        if (r10.1.1.1 !=(0:Int)) then
         if 0≤r7.1.1.2.1∧r7.1.1.2.1< ((x.1.2.2.2.2.2.2.2.2.2.2.1.length:Nat):Int) then
          ((x.1.2.2.2.2.2.2.2.2.2.2.1)[(r7.1.1.2.1).toNat]?).bind fun y11=>
          (F_dy ((x.1.1,(x.1.2.1,(x.1.2.2.1,(x.1.2.2.2.1,(false,(x.1.2.2.2.2.2.1,(x.1.2.2.2.2.2.2.1,(x.1.2.2.2.2.2.2.2.1,(x.1.2.2.2.2.2.2.2.2.1,(x.1.2.2.2.2.2.2.2.2.2.1,(x.1.2.2.2.2.2.2.2.2.2.2.1,((-1:Int),((-1:Int),()))))))))))))),(1:Int),y11,())).bind fun r12=>
          some ((),(r12.2.1,()))
         else none
        else
         (F_fb ((x.1.1,(x.1.2.1,(x.1.2.2.1,(x.1.2.2.2.1,(false,(x.1.2.2.2.2.2.1,(x.1.2.2.2.2.2.2.1,(x.1.2.2.2.2.2.2.2.1,(x.1.2.2.2.2.2.2.2.2.1,(x.1.2.2.2.2.2.2.2.2.2.1,(x.1.2.2.2.2.2.2.2.2.2.2.1,((-1:Int),((-1:Int),()))))))))))))),r10.1.1.2.1,())).bind fun r13=>
         some ((),(r13.2.1,()))
       else none
    else none
   else
    (F_eg ((x.1.1,(x.1.2.1,(x.1.2.2.1,(x.1.2.2.2.1,(x.1.2.2.2.2.1,(x.1.2.2.2.2.2.1,(x.1.2.2.2.2.2.2.1,(x.1.2.2.2.2.2.2.2.1,(x.1.2.2.2.2.2.2.2.2.1,()))))))))),x.1.2.2.2.2.2.2.2.2.2.1,x.1.2.2.2.2.2.2.2.2.2.2.1,x.1.2.1,(4:Int),())).bind fun r14=>
    if (r14.1.1.1 !=(0:Int)) then
     (F_dy ((x.1.1,(x.1.2.1,(x.1.2.2.1,(x.1.2.2.2.1,(x.1.2.2.2.2.1,(x.1.2.2.2.2.2.1,(x.1.2.2.2.2.2.2.1,(x.1.2.2.2.2.2.2.2.1,(x.1.2.2.2.2.2.2.2.2.1,(x.1.2.2.2.2.2.2.2.2.2.1,(x.1.2.2.2.2.2.2.2.2.2.2.1,((-1:Int),((-1:Int),()))))))))))))),(2:Int),x.1.2.1,())).bind fun r15=>
     some ((),(r15.2.1,()))
    else
     if 0≤r14.1.1.2.1∧r14.1.1.2.1< ((x.1.2.2.2.2.2.2.2.2.2.2.1.length:Nat):Int) then
      ((x.1.2.2.2.2.2.2.2.2.2.2.1)[(r14.1.1.2.1).toNat]?).bind fun y16=>
      (F_ei (y16,())).bind fun r17=>
      if (r17.1.1.1 !=(0:Int)) then
       if 0≤r14.1.1.2.1∧r14.1.1.2.1< ((x.1.2.2.2.2.2.2.2.2.2.2.1.length:Nat):Int) then
        ((x.1.2.2.2.2.2.2.2.2.2.2.1)[(r14.1.1.2.1).toNat]?).bind fun y18=>
        (F_dy ((x.1.1,(x.1.2.1,(x.1.2.2.1,(x.1.2.2.2.1,(x.1.2.2.2.2.1,(x.1.2.2.2.2.2.1,(x.1.2.2.2.2.2.2.1,(x.1.2.2.2.2.2.2.2.1,(x.1.2.2.2.2.2.2.2.2.1,(x.1.2.2.2.2.2.2.2.2.2.1,(x.1.2.2.2.2.2.2.2.2.2.2.1,((-1:Int),((-1:Int),()))))))))))))),(1:Int),y18,())).bind fun r19=>
        some ((),(r19.2.1,()))
       else none
      else
       (F_fb ((x.1.1,(x.1.2.1,(x.1.2.2.1,(x.1.2.2.2.1,(x.1.2.2.2.2.1,(x.1.2.2.2.2.2.1,(x.1.2.2.2.2.2.2.1,(x.1.2.2.2.2.2.2.2.1,(x.1.2.2.2.2.2.2.2.2.1,(x.1.2.2.2.2.2.2.2.2.2.1,(x.1.2.2.2.2.2.2.2.2.2.2.1,((-1:Int),((-1:Int),()))))))))))))),r17.1.1.2.1,())).bind fun r20=>
       some ((),(r20.2.1,()))
     else none
abbrev C_fc:Con:=⟨P_fc,R_ap,F_fc,false⟩
abbrev G_fc:Env:=[(184,C_dw),(185,C_dy),(186,C_du),(187,C_eg),(188,C_ei),(189,C_fb)]
theorem g_fc:Qg Tryz.prog G_fc:=(Qa s_dw (Qa s_dy (Qa s_du (Qa s_eg (Qa s_ei (Qa s_fb Qd))))))
theorem s_fc:Qb Tryz.prog 139 C_fc:=fnC (L:=[]) hT g_fc Tryz.f139 okP fun _=>by kernel_rfl
abbrev P_fd:List PK:=[.val Y45,.val Y26,.val Y30,.val YI]
abbrev R_fd:List VK:=[.g [.dat YI,.dat YI,.dat YI,.own 2 YI,.dat YI,.own 2 YI,.dat .bool,.dat .bool,.dat .bool,.dat YI,.own 2 YI,.own 2 YI,.own 2 YI]]
abbrev i_fd_4:Shp:={ slots:=[(8,.s (.ptr 8 0)),(9,.s (.ptr 9 0)),(10,.s (.dat YI)),(11,.s (.dat YI)),(18,.s (.dat YI)),(19,.s (.dat YI))],boxes:=[(8,[.dat YI,.dat YI,.dat YI,.own 2 YI,.dat YI,.own 2 YI,.dat .bool,.dat .bool,.dat .bool,.dat YI,.own 2 YI,.own 2 YI,.own 2 YI]),(9,[.own 2 YI,.dat YI,.own 2 YI,.dat .bool,.dat .bool,.dat .bool,.dat YI,.own 2 YI,.own 2 YI,.dat Y26,.own 2 YI,.dat YI,.dat YI])],rows:=[] }
abbrev o_fd_4:List (Ex×Shp):=[(.exit 0,{ slots:=[(8,.s (.ptr 8 0)),(9,.s (.ptr 9 0)),(10,.s (.dat YI)),(11,.s (.dat YI))],boxes:=[(8,[.dat YI,.dat YI,.dat YI,.own 2 YI,.dat YI,.own 2 YI,.dat .bool,.dat .bool,.dat .bool,.dat YI,.own 2 YI,.own 2 YI,.own 2 YI]),(9,[.own 2 YI,.dat YI,.own 2 YI,.dat .bool,.dat .bool,.dat .bool,.dat YI,.own 2 YI,.own 2 YI,.dat Y26,.own 2 YI,.dat YI,.dat YI])],rows:=[] })]
def l_fd_4 (rec:i_fd_4.den→Option (denO o_fd_4)) (u:i_fd_4.den):Option (denO o_fd_4):=
 if (ltI u.1.2.2.2.2.2.1 u.1.2.2.2.2.1) then
  (F_fc (u.2.1.2.1,())).bind fun r4=>
  if (leI (0:Int) r4.2.1.2.2.2.2.2.2.2.2.2.2.2.1) then
   if (leI (0:Int) r4.2.1.2.2.2.2.2.2.2.2.2.2.2.2.1) then
    let v5:=(IntKind.i64.wrap (u.1.2.2.2.2.2.1+(1:Int)))
    rec (((),((),(r4.2.1.2.2.2.2.2.2.2.2.2.2.2.1,(r4.2.1.2.2.2.2.2.2.2.2.2.2.2.2.1,(u.1.2.2.2.2.1,(v5,())))))),((u.2.1.1,(r4.2.1,())),()))
   else
    let v6:=(IntKind.i64.wrap (u.1.2.2.2.2.2.1+(1:Int)))
    rec (((),((),(r4.2.1.2.2.2.2.2.2.2.2.2.2.2.1,(u.1.2.2.2.1,(u.1.2.2.2.2.1,(v6,())))))),((u.2.1.1,(r4.2.1,())),()))
  else
   if (leI (0:Int) r4.2.1.2.2.2.2.2.2.2.2.2.2.2.2.1) then
    let v7:=(IntKind.i64.wrap (u.1.2.2.2.2.2.1+(1:Int)))
    rec (((),((),(u.1.2.2.1,(r4.2.1.2.2.2.2.2.2.2.2.2.2.2.2.1,(u.1.2.2.2.2.1,(v7,())))))),((u.2.1.1,(r4.2.1,())),()))
   else
    let v8:=(IntKind.i64.wrap (u.1.2.2.2.2.2.1+(1:Int)))
    rec (((),((),(u.1.2.2.1,(u.1.2.2.2.1,(u.1.2.2.2.2.1,(v8,())))))),((u.2.1.1,(r4.2.1,())),()))
 else
  some (.inl (((),((),(u.1.2.2.1,(u.1.2.2.2.1,())))),((u.2.1.1,(u.2.1.2.1,())),())))
def L_fd_4 (x:i_fd_4.den):Option (denO o_fd_4):=Qc l_fd_4 lots x
def F_fd (x:denP P_fd):FO P_fd R_fd:=
 (F_dm (x.1,())).bind fun r1=>
 (F_dg (x.2.2.1,())).bind fun r2=>
 (L_fd_4 (((),((),((-1:Int),((-1:Int),(x.2.2.2.1,((0:Int),())))))),((((0:Int),((0:Int),((0:Int),(([]:List (den YI)),((0:Int),(([]:List (den YI)),(false,(false,(false,((0:Int),(([]:List (den YI)),(([]:List (den YI)),(([]:List (den YI)),()))))))))))))),((r1.1.1.1,(r1.1.1.2.1,(r1.1.1.2.2.1,(r1.1.1.2.2.2.1,(r1.1.1.2.2.2.2.1,(r1.1.1.2.2.2.2.2.1,(r1.1.1.2.2.2.2.2.2.1,(r1.1.1.2.2.2.2.2.2.2.1,(r1.1.1.2.2.2.2.2.2.2.2.1,(x.2.1,(r2.1.1,((0:Int),((0:Int),()))))))))))))),())),()))).bind fun z9=>
 match z9 with
 | .inl x10=>
  some ((((0:Int),(x10.1.2.2.1,(x10.1.2.2.2.1,(x10.2.1.2.1.1,(x10.2.1.2.1.2.1,(x10.2.1.2.1.2.2.1,(x10.2.1.2.1.2.2.2.1,(x10.2.1.2.1.2.2.2.2.1,(x10.2.1.2.1.2.2.2.2.2.1,(x10.2.1.2.1.2.2.2.2.2.2.1,(x10.2.1.2.1.2.2.2.2.2.2.2.1,(x10.2.1.2.1.2.2.2.2.2.2.2.2.1,(x10.2.1.2.1.2.2.2.2.2.2.2.2.2.2.1,()))))))))))))),()),())
 | .inr z9_=>
  none
abbrev C_fd:Con:=⟨P_fd,R_fd,F_fd,false⟩
abbrev G_fd:Env:=[(63,C_dm),(87,C_dg),(139,C_fc)]
theorem g_fd:Qg Tryz.prog G_fd:=(Qa s_dm (Qa s_dg (Qa s_fc Qd)))
abbrev c_fd_4:Cut:=⟨i_fd_4,o_fd_4,fun x=>Qc l_fd_4 lots x⟩
theorem k_fd_4:Qu Tryz.prog 40 (.loop (nav Tryz.f89 [1,1,1,0,1,0,0])) c_fd_4:=
  Qi (L:=[]) hT g_fd (fun _ _=>by kernel_rfl) okP _
theorem r_fd (x):QK T G_fd [(4,c_fd_4)] Tryz.f89 C_fd.ps C_fd.rs x=C_fd.F x:=by kernel_rfl
theorem s_fd:Qb Tryz.prog 89 C_fd:=fnC (L:=[(4,c_fd_4)]) hT g_fd Tryz.f89 (okS okP (okS okP (okS okP (okS (okS okP (okB (okU k_fd_4))) okP)))) r_fd
end Go.Proofs.YtkkljegcnnfanaaGreatDoor
