/- The functions of the laws, each as a plain function of data (F), and that the program's text does what F says. Printed by a program (wip/tools/gen.py). -/
import Derived.Test.YtkkljegcnnfanaaGreatDoorGa2
set_option linter.unusedVariables false
set_option linter.unusedSimpArgs false
namespace Go.Proofs.YtkkljegcnnfanaaGreatDoor
open Go Go.RowKit S Go.Proofs
set_option maxRecDepth 100000
abbrev P_cx_1:List PK:=[.val Y30,.fn 166 []]
abbrev i_cy_2:Shp:={ slots:=[(0,.s (.dat Y30)),(1,.s (.fn 166 [])),(7,.s (.dat YI)),(8,.s (.dat YI))],boxes:=[],rows:=[] }
def l_cy_2 (rec:i_cy_2.den→Option (denO o_j_2)) (u:i_cy_2.den):Option (denO o_j_2):=
 if (ltI u.1.2.2.2.1 u.1.2.2.1) then
 if 0≤u.1.2.2.2.1 then
 ((u.1.1)[(u.1.2.2.2.1).toNat]?).bind fun y4=>
 (F_cw_1 (y4,())).bind fun r5=>
 if r5.1.1 then
 some (.inr (.inl ((u.1.2.2.2.1,()),((),()))))
 else
 let v6:=(IntKind.i64.wrap (u.1.2.2.2.1+(1:Int)))
 rec ((u.1.1,((),(u.1.2.2.1,(v6,())))),((),()))
 else none
 else
 some (.inl ((),((),())))
def L_cy_2 (x:i_cy_2.den):Option (denO o_j_2):=Qb l_cy_2 lots x
def F_cx_1 (x:denP P_cx_1):FO P_cx_1 R_c:=
 let v1:=((x.1.length:Nat):Int)
 (L_cy_2 ((x.1,((),(v1,((0:Int),())))),((),()))).bind fun z7=>
 match z7 with
 | .inl x8=>
  some (((-1:Int),()),())
 | .inr z7_=>
  match z7_ with
  | .inl x9=>
   some ((x9.1.1,()),())
  | .inr z7__=>
   none
abbrev C_cx_1:Con:=⟨P_cx_1,R_c,F_cx_1,false⟩
abbrev G_cx_1:Env:=[(166,C_cw_1)]
theorem g_cx_1:Be G_cx_1:=(Qa s_cw_1 Qc)
abbrev c_cy_2:Cut:=⟨i_cy_2,o_j_2,fun x=>Qb l_cy_2 lots x⟩
theorem k_cy_2:Bu 19 (.loop (nav Tryz.f215 [1,0,1,0,0])) c_cy_2:=
  Qd (L:=[]) hT g_cx_1 (fun _ _=>by kernel_rfl) okP _
theorem r_cx_1 (x):QA T G_cx_1 [(2,c_cy_2)] Tryz.f215 C_cx_1.ps C_cx_1.rs x=C_cx_1.F x:=by kernel_rfl
theorem s_cx_1:Bc 215 C_cx_1:=fnC (L:=[(2,c_cy_2)]) hT g_cx_1 Tryz.f215 (okS okP (okS (okS okP (okB (okU k_cy_2))) okP)) r_cx_1
def F_cz_1 (x:denP P_cx_1):FO P_cx_1 R_a:=
 (F_cx_1 (x.1,(),())).bind fun r1=>
 some (((leI (0:Int) r1.1.1),()),())
abbrev C_cz_1:Con:=⟨P_cx_1,R_a,F_cz_1,false⟩
theorem s_cz_1:Bc 165 C_cz_1:=fnE (Qa s_cx_1 Qc) Tryz.f165
def F_cw (x:denP P_ae):FO P_ae R_a:=
 (F_cz_1 (x.1,(),())).bind fun r1=>
 some (((!r1.1.1),()),())
abbrev C_cw:Con:=⟨P_ae,R_a,F_cw,false⟩
theorem s_cw:Bc 107 C_cw:=fnE (Qa s_cz_1 Qc) Tryz.f107
def F_da (x:denP P_ae):FO P_ae R_c:=
 let v1:=((x.1.length:Nat):Int)
 if (v1==(0:Int))=false then
 let v2:=((x.1.length:Nat):Int)
 if (ltI (192:Int) v2)=false then
 let v3:=((x.1.length:Nat):Int)
 let v4:=((v3).tmod (8:Int))
 if (v4 !=(0:Int)) then
 some (((1:Int),()),())
 else
 (F_cw (x.1,())).bind fun r5=>
 if (!r5.1.1) then
 some (((3:Int),()),())
 else
 some (((0:Int),()),())
 else
 some (((1:Int),()),())
 else
 some (((1:Int),()),())
abbrev C_da:Con:=⟨P_ae,R_c,F_da,false⟩
theorem s_da:Bc 41 C_da:=fnE (Qa s_cw Qc) Tryz.f41
def F_db (x:denP P_ae):FO P_ae R_a:=
 (F_da (x.1,())).bind fun r1=>
 if (r1.1.1==(0:Int))=true then
 let v2:=((x.1.length:Nat):Int)
 some (((v2==(192:Int)),()),())
 else
 some ((false,()),())
abbrev C_db:Con:=⟨P_ae,R_a,F_db,false⟩
theorem s_db:Bc 48 C_db:=fnE (Qa s_da Qc) Tryz.f48
def F_dc (x:denP P_al):FO P_al R_c:=
 let v1:=((x.1.1.length:Nat):Int)
 if (v1 !=(16:Int))=false then
 let v2:=((x.1.2.2.1.length:Nat):Int)
 if (v2 !=(11:Int))=false then
 ((x.1.1)[((0:Int)).toNat]?).bind fun y3=>
 if (y3 !=(0:Int)) then
 some (((1:Int),()),())
 else
 (F_cw (x.1.1,())).bind fun r4=>
 if (!r4.1.1)=false then
 (F_cv (x.1.2.1,())).bind fun r5=>
 if (!r5.1.1)=false then
 (F_cw (x.1.2.2.1,())).bind fun r6=>
 if (!r6.1.1)=false then
 (F_cw (x.1.2.2.2.2.2.2.2.1,())).bind fun r7=>
 if (!r7.1.1)=false then
 (F_cw (x.1.2.2.2.2.2.2.2.2.1,())).bind fun r8=>
 if (!r8.1.1) then
 some (((3:Int),()),())
 else
 let v9:=((x.1.2.2.2.2.2.2.2.1.length:Nat):Int)
 if (ltI (40:Int) v9)=false then
 let v10:=((x.1.2.2.2.2.2.2.2.2.1.length:Nat):Int)
 if (ltI (40:Int) v10) then
 some (((2:Int),()),())
 else
 (F_cc (x.1.2.2.2.2.2.2.1,(0:Int),(1000000000:Int),())).bind fun r11=>
 if (!r11.1.1) then
 some (((3:Int),()),())
 else
 ((x.1.2.2.1)[((0:Int)).toNat]?).bind fun y12=>
 if (ltI (3:Int) y12)=false then
 ((x.1.2.2.1)[((7:Int)).toNat]?).bind fun y13=>
 if (ltI (7:Int) y13)=false then
 ((x.1.2.2.1)[((10:Int)).toNat]?).bind fun y14=>
 if (ltI (8:Int) y14)=false then
 ((x.1.2.2.1)[((6:Int)).toNat]?).bind fun y15=>
 if (y15 !=(0:Int))=false then
 ((x.1.2.2.1)[((8:Int)).toNat]?).bind fun y16=>
 if (y16 !=(0:Int)) then
 some (((1:Int),()),())
 else
 some (((0:Int),()),())
 else
 some (((1:Int),()),())
 else
 some (((1:Int),()),())
 else
 some (((1:Int),()),())
 else
 some (((1:Int),()),())
 else
 some (((2:Int),()),())
 else
 some (((3:Int),()),())
 else
 some (((3:Int),()),())
 else
 some (((3:Int),()),())
 else
 some (((3:Int),()),())
 else
 some (((1:Int),()),())
 else
 some (((1:Int),()),())
abbrev C_dc:Con:=⟨P_al,R_c,F_dc,false⟩
theorem s_dc:Bc 49 C_dc:=fnE (Qa s_cc (Qa s_cw (Qa s_cv Qc))) Tryz.f49
abbrev i_dd_3:Shp:={ slots:=[(1,.s (.dat YI)),(5,.s (.dat YI)),(11,.s (.dat Y26)),(12,.s (.dat YI)),(13,.s (.dat YI))],boxes:=[],rows:=[] }
abbrev o_dd_3:List (Ex×Shp):=[(.exit 0,{ slots:=[(5,.s (.dat YI))],boxes:=[],rows:=[] })]
def l_dd_3 (rec:i_dd_3.den→Option (denO o_dd_3)) (u:i_dd_3.den):Option (denO o_dd_3):=
 if (ltI u.1.2.2.2.2.1 u.1.2.2.2.1) then
 if 0≤u.1.2.2.2.2.1 then
 ((u.1.2.2.1)[(u.1.2.2.2.2.1).toNat]?).bind fun y3=>
 if (ltI u.1.1 (0:Int))=false then
 if (y3.1==u.1.1) then
 let v4:=(IntKind.i64.wrap (u.1.2.1+y3.2.1))
 let v5:=(IntKind.i64.wrap (u.1.2.2.2.2.1+(1:Int)))
 rec ((u.1.1,(v4,(u.1.2.2.1,(u.1.2.2.2.1,(v5,()))))),((),()))
 else
 let v6:=(IntKind.i64.wrap (u.1.2.2.2.2.1+(1:Int)))
 rec ((u.1.1,(u.1.2.1,(u.1.2.2.1,(u.1.2.2.2.1,(v6,()))))),((),()))
 else
 let v7:=(IntKind.i64.wrap (u.1.2.1+y3.2.1))
 let v8:=(IntKind.i64.wrap (u.1.2.2.2.2.1+(1:Int)))
 rec ((u.1.1,(v7,(u.1.2.2.1,(u.1.2.2.2.1,(v8,()))))),((),()))
 else none
 else
 some (.inl ((u.1.2.1,()),((),())))
def L_dd_3 (x:i_dd_3.den):Option (denO o_dd_3):=Qb l_dd_3 lots x
def F_dd (x:denP P_h):FO P_h R_c:=
 let v1:=((x.1.2.2.2.1.length:Nat):Int)
 (L_dd_3 ((x.2.1,((0:Int),(x.1.2.2.2.1,(v1,((0:Int),()))))),((),()))).bind fun z9=>
 match z9 with
 | .inl x10=>
  some ((x10.1.1,()),())
 | .inr z9_=>
  none
abbrev C_dd:Con:=⟨P_h,R_c,F_dd,false⟩
abbrev c_dd_3:Cut:=⟨i_dd_3,o_dd_3,fun x=>Qb l_dd_3 lots x⟩
theorem k_dd_3:Bu 31 (.loop (nav Tryz.f80 [1,1,0,1,0,0])) c_dd_3:=
  Qd (L:=[]) hT g_a (fun _ _=>by kernel_rfl) okP _
theorem r_dd (x):QA T G_a [(3,c_dd_3)] Tryz.f80 C_dd.ps C_dd.rs x=C_dd.F x:=by kernel_rfl
theorem s_dd:Bc 80 C_dd:=fnC (L:=[(3,c_dd_3)]) hT g_a Tryz.f80 (okS okP (okS okP (okS (okS okP (okB (okU k_dd_3))) okP))) r_dd
abbrev i_de_3:Shp:={ slots:=[(0,.s (.pd Y28)),(1,.s (.dat YI)),(6,.s (.dat YI))],boxes:=[],rows:=[] }
abbrev o_de_3:List (Ex×Shp):=[(.exit 0,{ slots:=[(0,.s (.pd Y28)),(1,.s (.dat YI)),(6,.s (.dat YI))],boxes:=[],rows:=[] })]
def l_de_3 (rec:i_de_3.den→Option (denO o_de_3)) (u:i_de_3.den):Option (denO o_de_3):=
 if 0≤u.1.2.2.1 then
 ((u.1.1.2.2.2.1)[(u.1.2.2.1).toNat]?).bind fun y5=>
 if (leI y5.2.1 u.1.2.1) then
 if 0≤u.1.2.2.1 then
 ((u.1.1.2.2.2.1)[(u.1.2.2.1).toNat]?).bind fun y6=>
 let v7:=(IntKind.i64.wrap (u.1.2.1-y6.2.1))
 let v8:=(IntKind.i64.wrap (u.1.2.2.1+(1:Int)))
 rec ((u.1.1,(v7,(v8,()))),((),()))
 else none
 else
 some (.inl ((u.1.1,(u.1.2.1,(u.1.2.2.1,()))),((),())))
 else none
def L_de_3 (x:i_de_3.den):Option (denO o_de_3):=Qb l_de_3 lots x
def F_de (x:denP P_h):FO P_h R_aw:=
 (F_dd (x.1,(-1:Int),())).bind fun r1=>
 if r1.1.1=0 then none else
 let v2:=((x.2.1).tmod r1.1.1)
 (L_de_3 ((x.1,(v2,((0:Int),()))),((),()))).bind fun z9=>
 match z9 with
 | .inl x10=>
  if 0≤x10.1.2.2.1 then
  ((x10.1.1.2.2.2.1)[(x10.1.2.2.1).toNat]?).bind fun y11=>
  let v12:=(IntKind.i64.wrap (y11.2.1-x10.1.2.1))
  some ((x10.1.2.2.1,v12,()),())
  else none
 | .inr z9_=>
  none
abbrev C_de:Con:=⟨P_h,R_aw,F_de,false⟩
abbrev G_de:Env:=[(80,C_dd)]
theorem g_de:Be G_de:=(Qa s_dd Qc)
abbrev c_de_3:Cut:=⟨i_de_3,o_de_3,fun x=>Qb l_de_3 lots x⟩
theorem k_de_3:Bu 44 (.loop (nav Tryz.f51 [1,1,1,0,0,0])) c_de_3:=
  Qd (L:=[]) hT g_de (fun _ _=>by kernel_rfl) okP _
theorem r_de (x):QA T G_de [(3,c_de_3)] Tryz.f51 C_de.ps C_de.rs x=C_de.F x:=by kernel_rfl
theorem s_de:Bc 51 C_de:=fnC (L:=[(3,c_de_3)]) hT g_de Tryz.f51 (okS okP (okS okP (okS okP (okS (okB (okU k_de_3)) okP)))) r_de
abbrev P_df:List PK:=[.val Y32]
abbrev i_df_7:Shp:={ slots:=[(1,.s (.ptr 1 0)),(30,.s (.dat Y31)),(31,.s (.dat YI)),(32,.s (.dat YI))],boxes:=[(1,[.dat Y24,.dat Y25,.dat Y26,.dat Y26,.dat Y30,.dat Y31,.dat YI,.dat YI,.dat YI])],rows:=[] }
abbrev o_df_7:List (Ex×Shp):=[(.exit 0,{ slots:=[(1,.s (.ptr 1 0))],boxes:=[(1,[.dat Y24,.dat Y25,.dat Y26,.dat Y26,.dat Y30,.dat Y31,.dat YI,.dat YI,.dat YI])],rows:=[] }),(.ret,{ slots:=[(2,.s (.dat YI))],boxes:=[],rows:=[] })]
def l_df_7 (rec:i_df_7.den→Option (denO o_df_7)) (u:i_df_7.den):Option (denO o_df_7):=
 if (ltI u.1.2.2.2.1 u.1.2.2.1) then
 if 0≤u.1.2.2.2.1 then
 ((u.1.2.1)[(u.1.2.2.2.1).toNat]?).bind fun y8=>
 (F_dc (y8,())).bind fun r9=>
 if (r9.1.1 !=(0:Int)) then
 some (.inr (.inl ((r9.1.1,()),((),()))))
 else
 let v10:=(IntKind.i64.wrap (u.1.2.2.2.1+(1:Int)))
 rec (((),(u.1.2.1,(u.1.2.2.1,(v10,())))),((u.2.1.1,()),()))
 else none
 else
 some (.inl (((),()),((u.2.1.1,()),())))
def L_df_7 (x:i_df_7.den):Option (denO o_df_7):=Qb l_df_7 lots x
def F_df (x:denP P_df):FO P_df R_c:=
 (F_cu (x.1.1,())).bind fun r1=>
 if (r1.1.1 !=(0:Int)) then
 some ((r1.1.1,()),())
 else
 (F_db (x.1.2.1,())).bind fun r2=>
 if (!r2.1.1)=false then
 let v3:=((x.1.2.2.1.length:Nat):Int)
 let v4:=((x.1.1.1.length:Nat):Int)
 if (v3 !=v4) then
 some (((1:Int),()),())
 else
 let v5:=((x.1.2.2.1.length:Nat):Int)
 (L_df_7 (((),(x.1.2.2.1,(v5,((0:Int),())))),(((x.1.1.1,(x.1.1.2.1,(x.1.1.2.2.1,(x.1.1.2.2.2.1,(x.1.2.1,(x.1.2.2.1,(x.1.2.2.2.1,(x.1.2.2.2.2.1,(x.1.2.2.2.2.2.1,()))))))))),()),()))).bind fun z11=>
 match z11 with
 | .inl x12=>
  (F_cc (x12.2.1.1.2.2.2.2.2.2.2.2.1,(0:Int),(1000000:Int),())).bind fun r13=>
  if (!r13.1.1) then
  some (((3:Int),()),())
  else
  (F_de ((x12.2.1.1.1,(x12.2.1.1.2.1,(x12.2.1.1.2.2.1,(x12.2.1.1.2.2.2.1,())))),x12.2.1.1.2.2.2.2.2.2.2.2.1,())).bind fun r14=>
  if (x12.2.1.1.2.2.2.2.2.2.1 !=r14.1.1)=false then
  if (x12.2.1.1.2.2.2.2.2.2.2.1 !=r14.1.2.1) then
  some (((1:Int),()),())
  else
  some (((0:Int),()),())
  else
  some (((1:Int),()),())
 | .inr z11_=>
  match z11_ with
  | .inl x15=>
   some ((x15.1.1,()),())
  | .inr z11__=>
   none
 else
 some (((1:Int),()),())
abbrev C_df:Con:=⟨P_df,R_c,F_df,false⟩
abbrev G_df:Env:=[(47,C_cu),(48,C_db),(49,C_dc),(50,C_cc),(51,C_de)]
theorem g_df:Be G_df:=(Qa s_cu (Qa s_db (Qa s_dc (Qa s_cc (Qa s_de Qc)))))
abbrev c_df_7:Cut:=⟨i_df_7,o_df_7,fun x=>Qb l_df_7 lots x⟩
theorem k_df_7:Bu 63 (.loop (nav Tryz.f15 [1,1,1,0,1,0,0])) c_df_7:=
  Qd (L:=[]) hT g_df (fun _ _=>by kernel_rfl) okP _
theorem r_df (x):QA T G_df [(7,c_df_7)] Tryz.f15 C_df.ps C_df.rs x=C_df.F x:=by kernel_rfl
theorem s_df:Bc 15 C_df:=fnC (L:=[(7,c_df_7)]) hT g_df Tryz.f15 (okS okP (okS okP (okS okP (okS (okS okP (okB (okU k_df_7))) okP)))) r_df
def F_dg (x:denP P_ai):FO P_ai R_r:=
 some ((((-1:Int),((0:Int),())),()),())
abbrev C_dg:Con:=⟨P_ai,R_r,F_dg,false⟩
theorem s_dg:Bc 104 C_dg:=fnE g_a Tryz.f104
abbrev P_dh:List PK:=[.val (.int .u64),.val (.int .u64)]
abbrev R_dh:List VK:=[.s (.dat (.int .u64)),.s (.dat (.int .u64))]
def F_dh (x:denP P_dh):FO P_dh R_dh:=
 let v1:=(iand .u64 x.1 (4294967295:Int))
 let v2:=((x.1).fdiv (2 ^ 32))
 let v3:=(iand .u64 x.2.1 (4294967295:Int))
 let v4:=((x.2.1).fdiv (2 ^ 32))
 let v5:=(IntKind.u64.wrap (v1*v3))
 let v6:=(IntKind.u64.wrap (v2*v3))
 let v7:=((v5).fdiv (2 ^ 32))
 let v8:=(IntKind.u64.wrap (v6+v7))
 let v9:=(iand .u64 v8 (4294967295:Int))
 let v10:=((v8).fdiv (2 ^ 32))
 let v11:=(IntKind.u64.wrap (v1*v4))
 let v12:=(IntKind.u64.wrap (v9+v11))
 let v13:=(IntKind.u64.wrap (v2*v4))
 let v14:=(IntKind.u64.wrap (v13+v10))
 let v15:=((v12).fdiv (2 ^ 32))
 let v16:=(IntKind.u64.wrap (v14+v15))
 let v17:=(IntKind.u64.wrap (x.1*x.2.1))
 some ((v16,v17,()),())
abbrev C_dh:Con:=⟨P_dh,R_dh,F_dh,false⟩
theorem s_dh:Bc 208 C_dh:=fnE g_a Tryz.f208
def F_di (x:denP P_dh):FO P_dh R_dh:=
 (F_dh (x.1,x.2.1,())).bind fun r1=>
 some ((r1.1.1,r1.1.2.1,()),())
abbrev C_di:Con:=⟨P_dh,R_dh,F_di,false⟩
theorem s_di:Bc 153 C_di:=fnE (Qa s_dh Qc) Tryz.f153
abbrev P_dj:List PK:=[.val Y26,.val YI]
abbrev i_dj_8:Shp:={ slots:=[(7,.s (.own 88 Y38)),(8,.s (.dat YI))],boxes:=[],rows:=[] }
abbrev o_dj_8:List (Ex×Shp):=[(.exit 0,{ slots:=[(7,.s (.own 88 Y38))],boxes:=[],rows:=[] })]
def l_dj_8 (rec:i_dj_8.den→Option (denO o_dj_8)) (u:i_dj_8.den):Option (denO o_dj_8):=
 let v8:=((u.1.1.length:Nat):Int)
 if (ltI u.1.2.1 v8) then
 if 0≤u.1.2.1∧u.1.2.1≤((u.1.1.length:Nat):Int)∧((u.1.1.length:Nat):Int)≤((u.1.1.length:Nat):Int) then
 if 0≤(0:Int)∧(0:Int)≤u.1.2.1∧u.1.2.1≤((u.1.1.length:Nat):Int) then
 if 0< ((((u.1.1.length:Nat):Int)).toNat-(u.1.2.1).toNat)∧0< ((u.1.1.drop (0+((0:Int)).toNat)).take ((u.1.2.1).toNat-((0:Int)).toNat)).length then
 let v9:=(splc u.1.1 ((u.1.1.drop (0+((0:Int)).toNat)).take ((u.1.2.1).toNat-((0:Int)).toNat)) (0+(u.1.2.1).toNat) ((((u.1.1.length:Nat):Int)).toNat-(u.1.2.1).toNat))
 let v10:=((min ((((u.1.1.length:Nat):Int)).toNat-(u.1.2.1).toNat) ((u.1.1.drop (0+((0:Int)).toNat)).take ((u.1.2.1).toNat-((0:Int)).toNat)).length:Nat):Int)
 let v11:=(IntKind.i64.wrap (u.1.2.1+v10))
 rec ((v9,(v11,())),((),()))
 else none
 else none
 else none
 else
 some (.inl ((u.1.1,()),((),())))
def L_dj_8 (x:i_dj_8.den):Option (denO o_dj_8):=Qb l_dj_8 lots x
def F_dj (x:denP P_dj):FO P_dj R_aj:=
 if (ltI x.2.1 (0:Int)) then none else
 let v1:=((x.1.length:Nat):Int)
 let v2:=(IntKind.u64.wrap v1)
 let v3:=(IntKind.u64.wrap x.2.1)
 (F_di (v2,v3,())).bind fun r4=>
 if (ltI (0:Int) r4.1.1)=false then
 if (ltI (9223372036854775807:Int) r4.1.2.1) then none else
 let v5:=(IntKind.i64.wrap r4.1.2.1)
 if v5=v5∧0≤v5∧v5*16≤140737488355328∧v5≤9223372036854775807 then
 if 0< (List.replicate (v5).toNat (Qbf Y38)).length∧0< x.1.length then
 let v6:=(splc (List.replicate (v5).toNat (Qbf Y38)) x.1 0 (List.replicate (v5).toNat (Qbf Y38)).length)
 let v7:=((min (List.replicate (v5).toNat (Qbf Y38)).length x.1.length:Nat):Int)
 (L_dj_8 ((v6,(v7,())),((),()))).bind fun z12=>
 match z12 with
 | .inl x13=>
  some ((x13.1.1,()),())
 | .inr z12_=>
  none
 else none
 else none
 else none
abbrev C_dj:Con:=⟨P_dj,R_aj,F_dj,false⟩
abbrev G_dj:Env:=[(153,C_di)]
theorem g_dj:Be G_dj:=(Qa s_di Qc)
abbrev c_dj_8:Cut:=⟨i_dj_8,o_dj_8,fun x=>Qb l_dj_8 lots x⟩
theorem k_dj_8:Bu 48 (.loop (nav Tryz.f103 [1,1,1,1,1,1,0,0,0])) c_dj_8:=
  Qd (L:=[]) hT g_dj (fun _ _=>by kernel_rfl) okP _
theorem r_dj (x):QA T G_dj [(8,c_dj_8)] Tryz.f103 C_dj.ps C_dj.rs x=C_dj.F x:=by kernel_rfl
theorem s_dj:Bc 103 C_dj:=fnC (L:=[(8,c_dj_8)]) hT g_dj Tryz.f103 (okS okP (okS okP (okS okP (okS okP (okS okP (okS okP (okS (okB (okU k_dj_8)) okP))))))) r_dj
abbrev i_dk_8:Shp:={ slots:=[(1,.s (.dat YI)),(5,.s (.own 88 Y38)),(35,.s (.dat Y25)),(36,.s (.dat YI)),(37,.s (.dat YI))],boxes:=[],rows:=[] }
abbrev o_dk_8:List (Ex×Shp):=[(.exit 2,{ slots:=[(5,.s (.own 88 Y38))],boxes:=[],rows:=[] })]
def l_dk_8 (rec:i_dk_8.den→Option (denO o_dk_8)) (u:i_dk_8.den):Option (denO o_dk_8):=
 if (ltI u.1.2.2.2.2.1 u.1.2.2.2.1) then
 if 0≤u.1.2.2.2.2.1 then
 ((u.1.2.2.1)[(u.1.2.2.2.2.1).toNat]?).bind fun y18=>
 if (y18.1==u.1.1) then
 if 0≤y18.2.2.2.1∧y18.2.2.2.1< ((u.1.2.1.length:Nat):Int) then
 ((u.1.2.1)[(y18.2.2.2.1).toNat]?).bind fun y19=>
 let v20:=(u.1.2.1.set (y18.2.2.2.1).toNat (y18.2.2.1,((3:Int),())))
 if (y18.2.1==u.1.1) then
 if 0≤y18.2.2.2.2.1∧y18.2.2.2.2.1< ((v20.length:Nat):Int) then
 ((v20)[(y18.2.2.2.2.1).toNat]?).bind fun y21=>
 let v22:=(v20.set (y18.2.2.2.2.1).toNat (y18.2.2.1,((1:Int),())))
 let v23:=(IntKind.i64.wrap (u.1.2.2.2.2.1+(1:Int)))
 rec ((u.1.1,(v22,(u.1.2.2.1,(u.1.2.2.2.1,(v23,()))))),((),()))
 else none
 else
 let v24:=(IntKind.i64.wrap (u.1.2.2.2.2.1+(1:Int)))
 rec ((u.1.1,(v20,(u.1.2.2.1,(u.1.2.2.2.1,(v24,()))))),((),()))
 else none
 else
 if (y18.2.1==u.1.1) then
 if 0≤y18.2.2.2.2.1∧y18.2.2.2.2.1< ((u.1.2.1.length:Nat):Int) then
 ((u.1.2.1)[(y18.2.2.2.2.1).toNat]?).bind fun y25=>
 let v26:=(u.1.2.1.set (y18.2.2.2.2.1).toNat (y18.2.2.1,((1:Int),())))
 let v27:=(IntKind.i64.wrap (u.1.2.2.2.2.1+(1:Int)))
 rec ((u.1.1,(v26,(u.1.2.2.1,(u.1.2.2.2.1,(v27,()))))),((),()))
 else none
 else
 let v28:=(IntKind.i64.wrap (u.1.2.2.2.2.1+(1:Int)))
 rec ((u.1.1,(u.1.2.1,(u.1.2.2.1,(u.1.2.2.2.1,(v28,()))))),((),()))
 else none
 else
 some (.inl ((u.1.2.1,()),((),())))
def L_dk_8 (x:i_dk_8.den):Option (denO o_dk_8):=Qb l_dk_8 lots x
abbrev i_dk_3:Shp:={ slots:=[(0,.s (.pd Y28)),(1,.s (.dat YI)),(5,.s (.own 88 Y38)),(19,.s (.dat Y30)),(20,.s (.dat YI)),(21,.s (.dat YI))],boxes:=[],rows:=[] }
def l_dk_3 (rec:i_dk_3.den→Option (denO o_aj_3)) (u:i_dk_3.den):Option (denO o_aj_3):=
 if (ltI u.1.2.2.2.2.2.1 u.1.2.2.2.2.1) then
 if 0≤u.1.2.2.2.2.2.1 then
 ((u.1.2.2.2.1)[(u.1.2.2.2.2.2.1).toNat]?).bind fun y7=>
 if 0≤u.1.2.2.2.2.2.1∧u.1.2.2.2.2.2.1< ((u.1.2.2.1.length:Nat):Int) then
 ((u.1.2.2.1)[(u.1.2.2.2.2.2.1).toNat]?).bind fun y8=>
 let v9:=(u.1.2.2.1.set (u.1.2.2.2.2.2.1).toNat (y7,((7:Int),())))
 let v10:=(IntKind.i64.wrap (u.1.2.2.2.2.2.1+(1:Int)))
 rec ((u.1.1,(u.1.2.1,(v9,(u.1.2.2.2.1,(u.1.2.2.2.2.1,(v10,())))))),((),()))
 else none
 else none
 else
 some (.inl ((u.1.1,(u.1.2.1,(u.1.2.2.1,()))),((),())))
def L_dk_3 (x:i_dk_3.den):Option (denO o_aj_3):=Qb l_dk_3 lots x
def F_dk (x:denP P_h):FO P_h R_aj:=
 (F_dg ()).bind fun r1=>
 (F_dj ([r1.1.1],(8:Int),())).bind fun r2=>
 if 0≤x.2.1 then
 ((x.1.1)[(x.2.1).toNat]?).bind fun y3=>
 let v4:=((y3.length:Nat):Int)
 (L_dk_3 ((x.1,(x.2.1,(r2.1.1,(y3,(v4,((0:Int),())))))),((),()))).bind fun z11=>
 match z11 with
 | .inl x12=>
  let v13:=((x12.1.1.2.1.length:Nat):Int)
  (L_dk_8 ((x12.1.2.1,(x12.1.2.2.1,(x12.1.1.2.1,(v13,((0:Int),()))))),((),()))).bind fun z29=>
  match z29 with
  | .inl x30=>
   some ((x30.1.1,()),())
  | .inr z29_=>
   none
 | .inr z11_=>
  none
 else none
abbrev C_dk:Con:=⟨P_h,R_aj,F_dk,false⟩
abbrev G_dk:Env:=[(103,C_dj),(104,C_dg)]
theorem g_dk:Be G_dk:=(Qa s_dj (Qa s_dg Qc))
abbrev c_dk_8:Cut:=⟨i_dk_8,o_dk_8,fun x=>Qb l_dk_8 lots x⟩
theorem k_dk_8:Bu 65 (.loop (nav Tryz.f38 [1,1,1,0,1,0,0])) c_dk_8:=
  Qd (L:=[]) hT g_dk (fun _ _=>by kernel_rfl) okP _
abbrev c_dk_3:Cut:=⟨i_dk_3,o_aj_3,fun x=>Qb l_dk_3 lots x⟩
theorem k_dk_3:Bu 65 (.loop (nav Tryz.f38 [1,1,0,1,0,0])) c_dk_3:=
  Qd (L:=[]) hT g_dk (fun _ _=>by kernel_rfl) okP _
theorem r_dk (x):QA T G_dk [(8,c_dk_8),(3,c_dk_3)] Tryz.f38 C_dk.ps C_dk.rs x=C_dk.F x:=by kernel_rfl
theorem s_dk:Bc 38 C_dk:=fnC (L:=[(8,c_dk_8),(3,c_dk_3)]) hT g_dk Tryz.f38 (okS okP (okS okP (okS (okS okP (okB (okU k_dk_3))) (okS (okS okP (okB (okU k_dk_8))) okP)))) r_dk
def F_dl (x:denP P_ae):FO P_ae R_u:=
 if (([]:List (den YI)).length+x.1.length)*8≤140737488355328 then some (([]++x.1,()),()) else none
abbrev C_dl:Con:=⟨P_ae,R_u,F_dl,false⟩
theorem s_dl:Bc 87 C_dl:=
  QcN hT (fn:=Tryz.f87) (cn:=C_dl) (c0:=nav Tryz.f87 [0]) (ca:=nav Tryz.f87 [1,0,1,0]) (cb:=nav Tryz.f87 [1,1]) (id:=1) (d:=4) (nm:=1032000) (o1:=Qel Tryz.f87 [1,0,0] 0) (o2:=Qel Tryz.f87 [1,0,0] 1)
    (t:=30) (t':=30) (x:= .tmp 3) (r:=⟨Y30,[],2,24,0⟩) (u:=YI) (by kernel_rfl) (by kernel_rfl) (by kernel_rfl) ⟨by kernel_rfl,by kernel_rfl⟩ (fun y=>by kernel_rfl) (by kernel_rfl) (by kernel_rfl) (by kernel_rfl) (by kernel_rfl) (by kernel_rfl) rfl
    (fun y=>(st0 Tryz.f87 P_ae y).set 2 (.s .nls)) (fun y=>((st0 Tryz.f87 P_ae y).set 2 (.s .nls)).set 3 (.s (.d (.slice YI) y.1))) (fun y=>y.1)
    (fun y=>by kernel_rfl) (fun y=>by kernel_rfl) (fun y=>by kernel_rfl) (fun y=>Nat.le_of_ble_eq_true (by kernel_rfl)) (fun y=>by kernel_rfl) (by kernel_rfl) (by kernel_rfl) (by kernel_rfl) (fun y=>by kernel_rfl)
    (fun y h=>by obtain ⟨l,v⟩:=y; have h:l=[]:=h; subst h; show run _ _ _ _ _ _=F_dl ([],v); kernel_rfl) (fun y=>by kernel_rfl)
def F_dm (x:denP P_f):FO P_f R_u:=
 let v1:=(IntKind.i64.wrap (x.2.1*(8:Int)))
 let v2:=(IntKind.i64.wrap (x.2.1+(1:Int)))
 let v3:=(IntKind.i64.wrap (v2*(8:Int)))
 if 0≤v1∧v1≤v3∧v3≤((x.1.length:Nat):Int) then
 let v4:=((x.1.drop (v1).toNat).take ((v3).toNat-(v1).toNat))
 (F_dl (v4,())).bind fun r5=>
 some ((r5.1.1,()),())
 else none
abbrev C_dm:Con:=⟨P_f,R_u,F_dm,false⟩
theorem s_dm:Bc 43 C_dm:=fnE (Qa s_dl Qc) Tryz.f43
def F_dn (x:denP P_al):FO P_al R_al:=
 (F_dl (x.1.1,())).bind fun r1=>
 (F_dl (x.1.2.2.1,())).bind fun r2=>
 (F_dl (x.1.2.2.2.2.2.2.2.1,())).bind fun r3=>
 (F_dl (x.1.2.2.2.2.2.2.2.2.1,())).bind fun r4=>
 some (((r1.1.1,(x.1.2.1,(r2.1.1,(x.1.2.2.2.1,(x.1.2.2.2.2.1,(x.1.2.2.2.2.2.1,(x.1.2.2.2.2.2.2.1,(r3.1.1,(r4.1.1,()))))))))),()),())
abbrev C_dn:Con:=⟨P_al,R_al,F_dn,false⟩
theorem s_dn:Bc 63 C_dn:=fnE (Qa s_dl Qc) Tryz.f63
abbrev i_do_3:Shp:={ slots:=[(5,.s (.own 88 Y38)),(11,.s (.dat YI)),(12,.s (.dat YI))],boxes:=[],rows:=[] }
def l_do_3 (rec:i_do_3.den→Option (denO o_au_5)) (u:i_do_3.den):Option (denO o_au_5):=
 if (ltI u.1.2.2.1 u.1.2.1) then
 if 0≤u.1.2.2.1∧u.1.2.2.1< ((u.1.1.length:Nat):Int) then
 ((u.1.1)[(u.1.2.2.1).toNat]?).bind fun y5=>
 if (leI (0:Int) y5.1) then
 if 0≤u.1.2.2.1∧u.1.2.2.1< ((u.1.1.length:Nat):Int) then
 ((u.1.1)[(u.1.2.2.1).toNat]?).bind fun y6=>
 let v7:=(u.1.1.set (u.1.2.2.1).toNat (u.1.2.2.1,y6.2))
 let v8:=(IntKind.i64.wrap (u.1.2.2.1+(1:Int)))
 rec ((v7,(u.1.2.1,(v8,()))),((),()))
 else none
 else
 let v9:=(IntKind.i64.wrap (u.1.2.2.1+(1:Int)))
 rec ((u.1.1,(u.1.2.1,(v9,()))),((),()))
 else none
 else
 some (.inl ((u.1.1,()),((),())))
def L_do_3 (x:i_do_3.den):Option (denO o_au_5):=Qb l_do_3 lots x
def F_do (x:denP P_h):FO P_h R_aj:=
 (F_dk (x.1,x.2.1,())).bind fun r1=>
 let v2:=((r1.1.1.length:Nat):Int)
 (L_do_3 ((r1.1.1,(v2,((0:Int),()))),((),()))).bind fun z10=>
 match z10 with
 | .inl x11=>
  some ((x11.1.1,()),())
 | .inr z10_=>
  none
abbrev C_do:Con:=⟨P_h,R_aj,F_do,false⟩
abbrev G_do:Env:=[(38,C_dk)]
theorem g_do:Be G_do:=(Qa s_dk Qc)
abbrev c_do_3:Cut:=⟨i_do_3,o_au_5,fun x=>Qb l_do_3 lots x⟩
theorem k_do_3:Bu 28 (.loop (nav Tryz.f64 [1,1,0,1,0,0])) c_do_3:=
  Qd (L:=[]) hT g_do (fun _ _=>by kernel_rfl) okP _
theorem r_do (x):QA T G_do [(3,c_do_3)] Tryz.f64 C_do.ps C_do.rs x=C_do.F x:=by kernel_rfl
theorem s_do:Bc 64 C_do:=fnC (L:=[(3,c_do_3)]) hT g_do Tryz.f64 (okS okP (okS okP (okS (okS okP (okB (okU k_do_3))) okP))) r_do
abbrev P_dp:List PK:=[.val Y32,.val YI]
abbrev R_dp:List VK:=[.g [.dat YI,.own 2 YI,.dat YI,.own 2 YI,.dat .bool,.dat .bool,.dat .bool,.dat YI,.own 2 YI,.own 2 YI,.own 88 Y38,.own 2 YI]]
abbrev i_dp_8:Shp:={ slots:=[(1,.s (.dat YI)),(2,.s (.ptr 2 0)),(4,.s (.ptr 4 0)),(6,.s (.own 2 YI)),(23,.s (.own 88 Y38)),(24,.s (.dat YI)),(25,.s (.dat YI))],boxes:=[(2,[.dat Y24,.dat Y25,.dat Y26,.dat Y26,.dat Y30,.dat Y31,.dat YI,.dat YI,.dat YI]),(4,[.dat YI,.own 2 YI,.dat YI,.own 2 YI,.dat .bool,.dat .bool,.dat .bool,.dat YI,.own 2 YI,.own 2 YI,.own 88 Y38,.own 2 YI])],rows:=[] }
abbrev o_dp_8:List (Ex×Shp):=[(.exit 0,{ slots:=[(1,.s (.dat YI)),(2,.s (.ptr 2 0)),(4,.s (.ptr 4 0)),(6,.s (.own 2 YI))],boxes:=[(2,[.dat Y24,.dat Y25,.dat Y26,.dat Y26,.dat Y30,.dat Y31,.dat YI,.dat YI,.dat YI]),(4,[.dat YI,.own 2 YI,.dat YI,.own 2 YI,.dat .bool,.dat .bool,.dat .bool,.dat YI,.own 2 YI,.own 2 YI,.own 88 Y38,.own 2 YI])],rows:=[] })]
def l_dp_8 (rec:i_dp_8.den→Option (denO o_dp_8)) (u:i_dp_8.den):Option (denO o_dp_8):=
 if (ltI u.1.2.2.2.2.2.2.1 u.1.2.2.2.2.2.1) then
 if 0≤u.1.2.2.2.2.2.2.1∧u.1.2.2.2.2.2.2.1< ((u.1.2.2.2.2.1.length:Nat):Int) then
 ((u.1.2.2.2.2.1)[(u.1.2.2.2.2.2.2.1).toNat]?).bind fun y7=>
 if (leI (0:Int) y7.1) then
 let v8:=(IntKind.i64.wrap (u.1.2.2.2.2.2.2.1*(8:Int)))
 if 0≤v8∧v8≤((u.1.2.2.2.1.length:Nat):Int)∧((u.1.2.2.2.1.length:Nat):Int)≤((u.1.2.2.2.1.length:Nat):Int) then
 (F_dm (u.2.1.1.2.2.2.2.1,y7.1,())).bind fun r9=>
 if 0< ((((u.1.2.2.2.1.length:Nat):Int)).toNat-(v8).toNat)∧0< r9.1.1.length then
 let v10:=(splc u.1.2.2.2.1 r9.1.1 (0+(v8).toNat) ((((u.1.2.2.2.1.length:Nat):Int)).toNat-(v8).toNat))
 let v11:=((min ((((u.1.2.2.2.1.length:Nat):Int)).toNat-(v8).toNat) r9.1.1.length:Nat):Int)
 let v12:=(IntKind.i64.wrap (u.1.2.2.2.2.2.2.1+(1:Int)))
 rec ((u.1.1,((),((),(v10,(u.1.2.2.2.2.1,(u.1.2.2.2.2.2.1,(v12,()))))))),((u.2.1.1,(u.2.1.2.1,())),()))
 else none
 else none
 else
 let v13:=(IntKind.i64.wrap (u.1.2.2.2.2.2.2.1+(1:Int)))
 rec ((u.1.1,((),((),(u.1.2.2.2.1,(u.1.2.2.2.2.1,(u.1.2.2.2.2.2.1,(v13,()))))))),((u.2.1.1,(u.2.1.2.1,())),()))
 else none
 else
 some (.inl ((u.1.1,((),((),(u.1.2.2.2.1,())))),((u.2.1.1,(u.2.1.2.1,())),())))
def L_dp_8 (x:i_dp_8.den):Option (denO o_dp_8):=Qb l_dp_8 lots x
def F_dp (x:denP P_dp):FO P_dp R_dp:=
 (F_df (x.1,())).bind fun r1=>
 if (r1.1.1 !=(0:Int)) then
 some (((r1.1.1,(([]:List (den YI)),((0:Int),(([]:List (den YI)),(false,(false,(false,((0:Int),(([]:List (den YI)),(([]:List (den YI)),(([]:List (den Y38)),(([]:List (den YI)),())))))))))))),()),())
 else
 (F_ce (x.1.1,x.2.1,())).bind fun r2=>
 if (!r2.1.1) then
 some ((((4:Int),(([]:List (den YI)),((0:Int),(([]:List (den YI)),(false,(false,(false,((0:Int),(([]:List (den YI)),(([]:List (den YI)),(([]:List (den Y38)),(([]:List (den YI)),())))))))))))),()),())
 else
 (F_dk (x.1.1,x.2.1,())).bind fun r3=>
 let v4:=((r3.1.1.length:Nat):Int)
 (L_dp_8 ((x.2.1,((),((),((List.replicate ((64:Int)).toNat (Qbf YI)),(r3.1.1,(v4,((0:Int),()))))))),(((x.1.1.1,(x.1.1.2.1,(x.1.1.2.2.1,(x.1.1.2.2.2.1,(x.1.2.1,(x.1.2.2.1,(x.1.2.2.2.1,(x.1.2.2.2.2.1,(x.1.2.2.2.2.2.1,()))))))))),(((0:Int),(([]:List (den YI)),((0:Int),(([]:List (den YI)),(false,(false,(false,((0:Int),(([]:List (den YI)),(([]:List (den YI)),(([]:List (den Y38)),(([]:List (den YI)),())))))))))))),())),()))).bind fun z14=>
 match z14 with
 | .inl x15=>
  if 0≤x15.1.1 then
  ((x15.2.1.1.2.2.2.2.2.1)[(x15.1.1).toNat]?).bind fun y16=>
  (F_dn (y16,())).bind fun r17=>
  (F_do ((x15.2.1.1.1,(x15.2.1.1.2.1,(x15.2.1.1.2.2.1,(x15.2.1.1.2.2.2.1,())))),x15.1.1,())).bind fun r18=>
  some ((((0:Int),(r17.1.1.1,(r17.1.1.2.1,(r17.1.1.2.2.1,(r17.1.1.2.2.2.1,(r17.1.1.2.2.2.2.1,(r17.1.1.2.2.2.2.2.1,(r17.1.1.2.2.2.2.2.2.1,(r17.1.1.2.2.2.2.2.2.2.1,(r17.1.1.2.2.2.2.2.2.2.2.1,(r18.1.1,(x15.1.2.2.2.1,())))))))))))),()),())
  else none
 | .inr z14_=>
  none
abbrev C_dp:Con:=⟨P_dp,R_dp,F_dp,false⟩
abbrev G_dp:Env:=[(15,C_df),(38,C_dk),(43,C_dm),(44,C_ce),(63,C_dn),(64,C_do)]
theorem g_dp:Be G_dp:=(Qa s_df (Qa s_dk (Qa s_dm (Qa s_ce (Qa s_dn (Qa s_do Qc))))))
abbrev c_dp_8:Cut:=⟨i_dp_8,o_dp_8,fun x=>Qb l_dp_8 lots x⟩
theorem k_dp_8:Bu 56 (.loop (nav Tryz.f23 [1,1,1,1,0,1,0,0])) c_dp_8:=
  Qd (L:=[]) hT g_dp (fun _ _=>by kernel_rfl) okP _
theorem r_dp (x):QA T G_dp [(8,c_dp_8)] Tryz.f23 C_dp.ps C_dp.rs x=C_dp.F x:=by kernel_rfl
theorem s_dp:Bc 23 C_dp:=fnC (L:=[(8,c_dp_8)]) hT g_dp Tryz.f23 (okS okP (okS okP (okS okP (okS okP (okS (okS okP (okB (okU k_dp_8))) okP))))) r_dp
def l_dq_4 (rec:i_ae_2.den→Option (denO o_l_4)) (u:i_ae_2.den):Option (denO o_l_4):=
 let v7:=((u.1.1.length:Nat):Int)
 if (ltI u.1.2.1 v7) then
 if 0≤u.1.2.1 then
 ((u.1.1)[(u.1.2.1).toNat]?).bind fun y8=>
 (F_e (y8,(0:Int),(4294967295:Int),())).bind fun r9=>
 if (!r9.1.1) then
 some (.inr (.inl (((3:Int),()),((),()))))
 else
 let v10:=(IntKind.i64.wrap (u.1.2.1+(1:Int)))
 rec ((u.1.1,(v10,())),((),()))
 else none
 else
 some (.inl ((),((),())))
def L_dq_4 (x:i_ae_2.den):Option (denO o_l_4):=Qb l_dq_4 lots x
def F_dq (x:denP P_ae):FO P_ae R_c:=
 let v1:=((x.1.length:Nat):Int)
 let v2:=((v1).tmod (8:Int))
 if (v2 !=(0:Int))=false then
 let v3:=((x.1.length:Nat):Int)
 if (ltI v3 (8:Int))=false then
 let v4:=((x.1.length:Nat):Int)
 if (ltI (192:Int) v4) then
 some (((1:Int),()),())
 else
 (L_dq_4 ((x.1,((0:Int),())),((),()))).bind fun z11=>
 match z11 with
 | .inl x12=>
  some (((0:Int),()),())
 | .inr z11_=>
  match z11_ with
  | .inl x13=>
   some ((x13.1.1,()),())
  | .inr z11__=>
   none
 else
 some (((1:Int),()),())
 else
 some (((1:Int),()),())
abbrev C_dq:Con:=⟨P_ae,R_c,F_dq,false⟩
theorem g_dq:Be G_h:=(Qa s_e Qc)
abbrev c_dq_4:Cut:=⟨i_ae_2,o_l_4,fun x=>Qb l_dq_4 lots x⟩
theorem k_dq_4:Bu 30 (.loop (nav Tryz.f126 [1,1,0,1,0,0])) c_dq_4:=
  Qd (L:=[]) hT g_dq (fun _ _=>by kernel_rfl) okP _
theorem r_dq (x):QA T G_h [(4,c_dq_4)] Tryz.f126 C_dq.ps C_dq.rs x=C_dq.F x:=by kernel_rfl
theorem s_dq:Bc 126 C_dq:=fnC (L:=[(4,c_dq_4)]) hT g_dq Tryz.f126 (okS okP (okS okP (okS (okS okP (okB (okU k_dq_4))) okP))) r_dq
def F_dr (x:denP P_ae):FO P_ae R_a:=
 (F_dq (x.1,())).bind fun r1=>
 if (r1.1.1==(0:Int))=true then
 let v2:=((x.1.length:Nat):Int)
 some (((v2==(192:Int)),()),())
 else
 some ((false,()),())
abbrev C_dr:Con:=⟨P_ae,R_a,F_dr,false⟩
theorem s_dr:Bc 92 C_dr:=fnE (Qa s_dq Qc) Tryz.f92
def F_ds (x:denP P_an):FO P_an R_c:=
 let v1:=((x.1.1.length:Nat):Int)
 if (v1 !=(16:Int))=false then
 let v2:=((x.1.2.2.1.length:Nat):Int)
 if (v2 !=(11:Int))=false then
 ((x.1.1)[((0:Int)).toNat]?).bind fun y3=>
 if (y3 !=(0:Int)) then
 some (((1:Int),()),())
 else
 (F_ae (x.1.1,())).bind fun r4=>
 if (!r4.1.1)=false then
 (F_ad (x.1.2.1,())).bind fun r5=>
 if (!r5.1.1)=false then
 (F_ae (x.1.2.2.1,())).bind fun r6=>
 if (!r6.1.1)=false then
 (F_ae (x.1.2.2.2.2.2.2.2.1,())).bind fun r7=>
 if (!r7.1.1)=false then
 (F_ae (x.1.2.2.2.2.2.2.2.2.1,())).bind fun r8=>
 if (!r8.1.1) then
 some (((3:Int),()),())
 else
 let v9:=((x.1.2.2.2.2.2.2.2.1.length:Nat):Int)
 if (ltI (40:Int) v9)=false then
 let v10:=((x.1.2.2.2.2.2.2.2.2.1.length:Nat):Int)
 if (ltI (40:Int) v10) then
 some (((2:Int),()),())
 else
 (F_e (x.1.2.2.2.2.2.2.1,(0:Int),(1000000000:Int),())).bind fun r11=>
 if (!r11.1.1) then
 some (((3:Int),()),())
 else
 ((x.1.2.2.1)[((0:Int)).toNat]?).bind fun y12=>
 if (ltI (3:Int) y12)=false then
 ((x.1.2.2.1)[((7:Int)).toNat]?).bind fun y13=>
 if (ltI (7:Int) y13)=false then
 ((x.1.2.2.1)[((10:Int)).toNat]?).bind fun y14=>
 if (ltI (8:Int) y14)=false then
 ((x.1.2.2.1)[((6:Int)).toNat]?).bind fun y15=>
 if (y15 !=(0:Int))=false then
 ((x.1.2.2.1)[((8:Int)).toNat]?).bind fun y16=>
 if (y16 !=(0:Int)) then
 some (((1:Int),()),())
 else
 some (((0:Int),()),())
 else
 some (((1:Int),()),())
 else
 some (((1:Int),()),())
 else
 some (((1:Int),()),())
 else
 some (((1:Int),()),())
 else
 some (((2:Int),()),())
 else
 some (((3:Int),()),())
 else
 some (((3:Int),()),())
 else
 some (((3:Int),()),())
 else
 some (((3:Int),()),())
 else
 some (((1:Int),()),())
 else
 some (((1:Int),()),())
abbrev C_ds:Con:=⟨P_an,R_c,F_ds,false⟩
theorem s_ds:Bc 93 C_ds:=fnE (Qa s_e (Qa s_ae (Qa s_ad Qc))) Tryz.f93
abbrev i_dt_8:Shp:={ slots:=[(0,.s (.pd Y28)),(8,.s (.dat YI)),(9,.s (.dat YI))],boxes:=[],rows:=[] }
abbrev o_dt_8:List (Ex×Shp):=[(.exit 2,{ slots:=[(0,.s (.pd Y28)),(8,.s (.dat YI)),(9,.s (.dat YI))],boxes:=[],rows:=[] })]
def l_dt_8 (rec:i_dt_8.den→Option (denO o_dt_8)) (u:i_dt_8.den):Option (denO o_dt_8):=
 if 0≤u.1.2.2.1 then
 ((u.1.1.2.2.2.1)[(u.1.2.2.1).toNat]?).bind fun y11=>
 if (leI y11.2.1 u.1.2.1) then
 if 0≤u.1.2.2.1 then
 ((u.1.1.2.2.2.1)[(u.1.2.2.1).toNat]?).bind fun y12=>
 let v13:=(IntKind.i64.wrap (u.1.2.1-y12.2.1))
 let v14:=(IntKind.i64.wrap (u.1.2.2.1+(1:Int)))
 rec ((u.1.1,(v13,(v14,()))),((),()))
 else none
 else
 some (.inl ((u.1.1,(u.1.2.1,(u.1.2.2.1,()))),((),())))
 else none
def L_dt_8 (x:i_dt_8.den):Option (denO o_dt_8):=Qb l_dt_8 lots x
abbrev i_dt_3:Shp:={ slots:=[(0,.s (.pd Y28)),(1,.s (.dat YI)),(6,.s (.dat YI)),(7,.s (.dat YI))],boxes:=[],rows:=[] }
def l_dt_3 (rec:i_dt_3.den→Option (denO o_de_3)) (u:i_dt_3.den):Option (denO o_de_3):=
 let v2:=((u.1.1.2.2.2.1.length:Nat):Int)
 if (ltI u.1.2.2.2.1 v2) then
 if 0≤u.1.2.2.2.1 then
 ((u.1.1.2.2.2.1)[(u.1.2.2.2.1).toNat]?).bind fun y3=>
 let v4:=(IntKind.i64.wrap (u.1.2.2.1+y3.2.1))
 let v5:=(IntKind.i64.wrap (u.1.2.2.2.1+(1:Int)))
 rec ((u.1.1,(u.1.2.1,(v4,(v5,())))),((),()))
 else none
 else
 some (.inl ((u.1.1,(u.1.2.1,(u.1.2.2.1,()))),((),())))
def L_dt_3 (x:i_dt_3.den):Option (denO o_de_3):=Qb l_dt_3 lots x
def F_dt (x:denP P_h):FO P_h R_aw:=
 (L_dt_3 ((x.1,(x.2.1,((0:Int),((0:Int),())))),((),()))).bind fun z6=>
 match z6 with
 | .inl x7=>
  if x7.1.2.2.1=0 then none else
  let v8:=((x7.1.2.1).tmod x7.1.2.2.1)
  (L_dt_8 ((x7.1.1,(v8,((0:Int),()))),((),()))).bind fun z15=>
  match z15 with
  | .inl x16=>
   if 0≤x16.1.2.2.1 then
   ((x16.1.1.2.2.2.1)[(x16.1.2.2.1).toNat]?).bind fun y17=>
   let v18:=(IntKind.i64.wrap (y17.2.1-x16.1.2.1))
   some ((x16.1.2.2.1,v18,()),())
   else none
  | .inr z15_=>
   none
 | .inr z6_=>
  none
abbrev C_dt:Con:=⟨P_h,R_aw,F_dt,false⟩
abbrev c_dt_8:Cut:=⟨i_dt_8,o_dt_8,fun x=>Qb l_dt_8 lots x⟩
theorem k_dt_8:Bu 65 (.loop (nav Tryz.f95 [1,1,1,1,1,0,0,0])) c_dt_8:=
  Qd (L:=[]) hT g_a (fun _ _=>by kernel_rfl) okP _
abbrev c_dt_3:Cut:=⟨i_dt_3,o_de_3,fun x=>Qb l_dt_3 lots x⟩
theorem k_dt_3:Bu 65 (.loop (nav Tryz.f95 [1,1,0,1,0,0])) c_dt_3:=
  Qd (L:=[]) hT g_a (fun _ _=>by kernel_rfl) okP _
theorem r_dt (x):QA T G_a [(8,c_dt_8),(3,c_dt_3)] Tryz.f95 C_dt.ps C_dt.rs x=C_dt.F x:=by kernel_rfl
theorem s_dt:Bc 95 C_dt:=fnC (L:=[(8,c_dt_8),(3,c_dt_3)]) hT g_a Tryz.f95 (okS okP (okS okP (okS (okS okP (okB (okU k_dt_3))) (okS okP (okS okP (okS (okB (okU k_dt_8)) okP)))))) r_dt
abbrev P_du:List PK:=[.ptr Y32]
abbrev i_du_7:Shp:={ slots:=[(0,.s (.pd Y32)),(4,.s (.dat YI))],boxes:=[],rows:=[] }
abbrev o_du_7:List (Ex×Shp):=[(.exit 0,{ slots:=[(0,.s (.pd Y32))],boxes:=[],rows:=[] }),(.ret,{ slots:=[(2,.s (.dat YI))],boxes:=[],rows:=[] })]
def l_du_7 (rec:i_du_7.den→Option (denO o_du_7)) (u:i_du_7.den):Option (denO o_du_7):=
 let v7:=((u.1.1.2.2.1.length:Nat):Int)
 if (ltI u.1.2.1 v7) then
 if 0≤u.1.2.1 then
 ((u.1.1.2.2.1)[(u.1.2.1).toNat]?).bind fun y8=>
 (F_ds (y8,())).bind fun r9=>
 if (r9.1.1 !=(0:Int)) then
 some (.inr (.inl ((r9.1.1,()),((),()))))
 else
 let v10:=(IntKind.i64.wrap (u.1.2.1+(1:Int)))
 rec ((u.1.1,(v10,())),((),()))
 else none
 else
 some (.inl ((u.1.1,()),((),())))
def L_du_7 (x:i_du_7.den):Option (denO o_du_7):=Qb l_du_7 lots x
def F_du (x:denP P_du):FO P_du R_c:=
 (F_x (x.1.1,())).bind fun r1=>
 if (r1.1.1 !=(0:Int)) then
 some ((r1.1.1,()),())
 else
 (F_dr (x.1.2.1,())).bind fun r2=>
 if (!r2.1.1)=false then
 let v3:=((x.1.2.2.1.length:Nat):Int)
 let v4:=((x.1.1.1.length:Nat):Int)
 if (v3 !=v4) then
 some (((1:Int),()),())
 else
 (L_du_7 ((x.1,((0:Int),())),((),()))).bind fun z11=>
 match z11 with
 | .inl x12=>
  (F_e (x12.1.1.2.2.2.2.2.1,(0:Int),(1000000:Int),())).bind fun r13=>
  if (!r13.1.1) then
  some (((3:Int),()),())
  else
  (F_dt (x12.1.1.1,x12.1.1.2.2.2.2.2.1,())).bind fun r14=>
  if (x12.1.1.2.2.2.1 !=r14.1.1)=false then
  if (x12.1.1.2.2.2.2.1 !=r14.1.2.1) then
  some (((1:Int),()),())
  else
  some (((0:Int),()),())
  else
  some (((1:Int),()),())
 | .inr z11_=>
  match z11_ with
  | .inl x15=>
   some ((x15.1.1,()),())
  | .inr z11__=>
   none
 else
 some (((1:Int),()),())
abbrev C_du:Con:=⟨P_du,R_c,F_du,false⟩
abbrev G_du:Env:=[(91,C_x),(92,C_dr),(93,C_ds),(94,C_e),(95,C_dt)]
theorem g_du:Be G_du:=(Qa s_x (Qa s_dr (Qa s_ds (Qa s_e (Qa s_dt Qc)))))
abbrev c_du_7:Cut:=⟨i_du_7,o_du_7,fun x=>Qb l_du_7 lots x⟩
theorem k_du_7:Bu 85 (.loop (nav Tryz.f34 [1,1,1,0,1,0,0])) c_du_7:=
  Qd (L:=[]) hT g_du (fun _ _=>by kernel_rfl) okP _
theorem r_du (x):QA T G_du [(7,c_du_7)] Tryz.f34 C_du.ps C_du.rs x=C_du.F x:=by kernel_rfl
theorem s_du:Bc 34 C_du:=fnC (L:=[(7,c_du_7)]) hT g_du Tryz.f34 (okS okP (okS okP (okS okP (okS (okS okP (okB (okU k_du_7))) okP)))) r_du
def l_dv_3 (rec:i_au_5.den→Option (denO o_au_5)) (u:i_au_5.den):Option (denO o_au_5):=
 let v4:=((u.1.1.length:Nat):Int)
 if (ltI u.1.2.1 v4) then
 if 0≤u.1.2.1∧u.1.2.1< ((u.1.1.length:Nat):Int) then
 ((u.1.1)[(u.1.2.1).toNat]?).bind fun y5=>
 if (leI (0:Int) y5.1) then
 if 0≤u.1.2.1∧u.1.2.1< ((u.1.1.length:Nat):Int) then
 ((u.1.1)[(u.1.2.1).toNat]?).bind fun y6=>
 let v7:=(u.1.1.set (u.1.2.1).toNat (u.1.2.1,y6.2))
 let v8:=(IntKind.i64.wrap (u.1.2.1+(1:Int)))
 rec ((v7,(v8,())),((),()))
 else none
 else
 let v9:=(IntKind.i64.wrap (u.1.2.1+(1:Int)))
 rec ((u.1.1,(v9,())),((),()))
 else none
 else
 some (.inl ((u.1.1,()),((),())))
def L_dv_3 (x:i_au_5.den):Option (denO o_au_5):=Qb l_dv_3 lots x
def F_dv (x:denP P_h):FO P_h R_aj:=
 (F_aj (x.1,x.2.1,())).bind fun r1=>
 (L_dv_3 ((r1.1.1,((0:Int),())),((),()))).bind fun z10=>
 match z10 with
 | .inl x11=>
  some ((x11.1.1,()),())
 | .inr z10_=>
  none
abbrev C_dv:Con:=⟨P_h,R_aj,F_dv,false⟩
abbrev G_dv:Env:=[(100,C_aj)]
theorem g_dv:Be G_dv:=(Qa s_aj Qc)
abbrev c_dv_3:Cut:=⟨i_au_5,o_au_5,fun x=>Qb l_dv_3 lots x⟩
theorem k_dv_3:Bu 28 (.loop (nav Tryz.f122 [1,1,0,1,0,0])) c_dv_3:=
  Qd (L:=[]) hT g_dv (fun _ _=>by kernel_rfl) okP _
theorem r_dv (x):QA T G_dv [(3,c_dv_3)] Tryz.f122 C_dv.ps C_dv.rs x=C_dv.F x:=by kernel_rfl
theorem s_dv:Bc 122 C_dv:=fnC (L:=[(3,c_dv_3)]) hT g_dv Tryz.f122 (okS okP (okS okP (okS (okS okP (okB (okU k_dv_3))) okP))) r_dv
abbrev P_dw:List PK:=[.val Y30,.val Y30]
abbrev i_dw_3:Shp:={ slots:=[(0,.s (.dat Y30)),(1,.s (.dat Y30)),(5,.s (.own 2 YI)),(6,.s (.dat YI))],boxes:=[],rows:=[] }
def l_dw_3 (rec:i_dw_3.den→Option (denO o_aa_3)) (u:i_dw_3.den):Option (denO o_aa_3):=
 let v3:=((u.1.2.1.length:Nat):Int)
 if (ltI u.1.2.2.2.1 v3) then
 if 0≤u.1.2.2.2.1 then
 ((u.1.2.1)[(u.1.2.2.2.1).toNat]?).bind fun y4=>
 let v5:=(IntKind.i64.wrap (y4*(8:Int)))
 if 0≤u.1.2.2.2.1 then
 ((u.1.2.1)[(u.1.2.2.2.1).toNat]?).bind fun y6=>
 let v7:=(IntKind.i64.wrap (y6+(1:Int)))
 let v8:=(IntKind.i64.wrap (v7*(8:Int)))
 if 0≤v5∧v5≤v8∧v8≤((u.1.1.length:Nat):Int) then
 let v9:=((u.1.1.drop (v5).toNat).take ((v8).toNat-(v5).toNat))
 if (u.1.2.2.1.length+v9.length)*8≤140737488355328 then
 let v10:=(u.1.2.2.1++v9)
 let v11:=(IntKind.i64.wrap (u.1.2.2.2.1+(1:Int)))
 rec ((u.1.1,(u.1.2.1,(v10,(v11,())))),((),()))
 else none
 else none
 else none
 else none
 else
 some (.inl ((u.1.2.2.1,()),((),())))
def L_dw_3 (x:i_dw_3.den):Option (denO o_aa_3):=Qb l_dw_3 lots x
def F_dw (x:denP P_dw):FO P_dw R_u:=
 (L_dw_3 ((x.1,(x.2.1,(([]:List (den YI)),((0:Int),())))),((),()))).bind fun z12=>
 match z12 with
 | .inl x13=>
  some ((x13.1.1,()),())
 | .inr z12_=>
  none
abbrev C_dw:Con:=⟨P_dw,R_u,F_dw,false⟩
abbrev c_dw_3:Cut:=⟨i_dw_3,o_aa_3,fun x=>Qb l_dw_3 lots x⟩
theorem k_dw_3:Bu 30 (.loop (nav Tryz.f76 [1,1,0,1,0,0])) c_dw_3:=
  Qd (L:=[]) hT g_a (fun _ _=>by kernel_rfl) okP _
theorem r_dw (x):QA T G_a [(3,c_dw_3)] Tryz.f76 C_dw.ps C_dw.rs x=C_dw.F x:=by kernel_rfl
theorem s_dw:Bc 76 C_dw:=fnC (L:=[(3,c_dw_3)]) hT g_a Tryz.f76 (okS okP (okS okP (okS (okS okP (okB (okU k_dw_3))) okP))) r_dw
abbrev P_dx:List PK:=[.box [.dat Y30,.dat YI,.dat Y30,.dat .bool,.dat .bool,.dat .bool,.dat YI,.dat Y30,.dat Y30,.dat Y26,.own 2 YI] [.dat Y30,.dat YI,.dat Y30,.dat .bool,.dat .bool,.dat .bool,.dat YI,.dat Y30,.dat Y30,.dat Y26,.own 2 YI],.val YI,.val Y30]
abbrev i_dx_1:Shp:={ slots:=[(0,.s (.ptr 9000000 0)),(1,.s (.dat YI)),(2,.s (.dat Y30)),(6,.s (.dat YI))],boxes:=[(9000000,[.dat Y30,.dat YI,.dat Y30,.dat .bool,.dat .bool,.dat .bool,.dat YI,.dat Y30,.dat Y30,.dat Y26,.own 2 YI])],rows:=[] }
abbrev o_dx_1:List (Ex×Shp):=[(.exit 0,{ slots:=[],boxes:=[(9000000,[.dat Y30,.dat YI,.dat Y30,.dat .bool,.dat .bool,.dat .bool,.dat YI,.dat Y30,.dat Y30,.dat Y26,.own 2 YI])],rows:=[] })]
def l_dx_1 (rec:i_dx_1.den→Option (denO o_dx_1)) (u:i_dx_1.den):Option (denO o_dx_1):=
 let v3:=((u.1.2.2.1.length:Nat):Int)
 if (ltI u.1.2.2.2.1 v3) then
 let v4:=(IntKind.i64.wrap (u.1.2.1*(8:Int)))
 let v5:=(IntKind.i64.wrap (v4+u.1.2.2.2.1))
 if 0≤u.1.2.2.2.1 then
 ((u.1.2.2.1)[(u.1.2.2.2.1).toNat]?).bind fun y6=>
 if 0≤v5∧v5< ((u.2.1.1.2.2.2.2.2.2.2.2.2.2.1.length:Nat):Int) then
 ((u.2.1.1.2.2.2.2.2.2.2.2.2.2.1)[(v5).toNat]?).bind fun y7=>
 let v8:=(u.2.1.1.2.2.2.2.2.2.2.2.2.2.1.set (v5).toNat y6)
 let v9:=(IntKind.i64.wrap (u.1.2.2.2.1+(1:Int)))
 rec (((),(u.1.2.1,(u.1.2.2.1,(v9,())))),(((u.2.1.1.1,(u.2.1.1.2.1,(u.2.1.1.2.2.1,(u.2.1.1.2.2.2.1,(u.2.1.1.2.2.2.2.1,(u.2.1.1.2.2.2.2.2.1,(u.2.1.1.2.2.2.2.2.2.1,(u.2.1.1.2.2.2.2.2.2.2.1,(u.2.1.1.2.2.2.2.2.2.2.2.1,(u.2.1.1.2.2.2.2.2.2.2.2.2.1,(v8,()))))))))))),()),()))
 else none
 else none
 else
 some (.inl ((),((u.2.1.1,()),())))
def L_dx_1 (x:i_dx_1.den):Option (denO o_dx_1):=Qb l_dx_1 lots x
def F_dx (x:denP P_dx):FO P_dx R_ap:=
 (L_dx_1 (((),(x.2.1,(x.2.2.1,((0:Int),())))),((x.1,()),()))).bind fun z10=>
 match z10 with
 | .inl x11=>
  some ((),(x11.2.1.1,()))
 | .inr z10_=>
  none
abbrev C_dx:Con:=⟨P_dx,R_ap,F_dx,false⟩
abbrev c_dx_1:Cut:=⟨i_dx_1,o_dx_1,fun x=>Qb l_dx_1 lots x⟩
theorem k_dx_1:Bu 26 (.loop (nav Tryz.f75 [1,0,0])) c_dx_1:=
  Qd (L:=[]) hT g_a (fun _ _=>by kernel_rfl) okP _
theorem r_dx (x):QA T G_a [(1,c_dx_1)] Tryz.f75 C_dx.ps C_dx.rs x=C_dx.F x:=by kernel_rfl
theorem s_dx:Bc 75 C_dx:=fnC (L:=[(1,c_dx_1)]) hT g_a Tryz.f75 (okS okP (okB (okU k_dx_1))) r_dx
abbrev P_dy:List PK:=[.ptr Y32,.val YI]
abbrev R_dy:List VK:=[.g [.dat Y30,.dat YI,.dat Y30,.dat .bool,.dat .bool,.dat .bool,.dat YI,.dat Y30,.dat Y30,.dat Y26,.own 2 YI]]
abbrev i_dy_4:Shp:={ slots:=[(0,.s (.pd Y32)),(4,.s (.ptr 4 0)),(5,.s (.ptr 5 0)),(6,.s (.own 88 Y38)),(7,.s (.dat YI))],boxes:=[(4,[.own 2 YI,.dat YI,.own 2 YI,.dat .bool,.dat .bool,.dat .bool,.dat YI,.own 2 YI,.own 2 YI,.own 88 Y38,.own 2 YI]),(5,[.dat Y30,.dat YI,.dat Y30,.dat .bool,.dat .bool,.dat .bool,.dat YI,.dat Y30,.dat Y30,.dat Y26,.own 2 YI])],rows:=[] }
abbrev o_dy_4:List (Ex×Shp):=[(.exit 0,{ slots:=[(4,.s (.ptr 4 0)),(5,.s (.ptr 5 0))],boxes:=[(4,[.own 2 YI,.dat YI,.own 2 YI,.dat .bool,.dat .bool,.dat .bool,.dat YI,.own 2 YI,.own 2 YI,.own 88 Y38,.own 2 YI]),(5,[.dat Y30,.dat YI,.dat Y30,.dat .bool,.dat .bool,.dat .bool,.dat YI,.dat Y30,.dat Y30,.dat Y26,.own 2 YI])],rows:=[] })]
def l_dy_4 (rec:i_dy_4.den→Option (denO o_dy_4)) (u:i_dy_4.den):Option (denO o_dy_4):=
 if (ltI u.1.2.2.2.2.1 (8:Int)) then
 if 0≤u.1.2.2.2.2.1∧u.1.2.2.2.2.1< ((u.1.2.2.2.1.length:Nat):Int) then
 ((u.1.2.2.2.1)[(u.1.2.2.2.2.1).toNat]?).bind fun y13=>
 if (leI (0:Int) y13.1) then
 if 0≤u.1.2.2.2.2.1∧u.1.2.2.2.2.1< ((u.1.2.2.2.1.length:Nat):Int) then
 ((u.1.2.2.2.1)[(u.1.2.2.2.2.1).toNat]?).bind fun y14=>
 (F_dw (u.1.1.2.1,[y14.1],())).bind fun r15=>
 (F_dx (u.2.1.2.1,u.1.2.2.2.2.1,r15.1.1,())).bind fun r16=>
 let v17:=(IntKind.i64.wrap (u.1.2.2.2.2.1+(1:Int)))
 rec ((u.1.1,((),((),(u.1.2.2.2.1,(v17,()))))),((u.2.1.1,(r16.2.1,())),()))
 else none
 else
 let v18:=(IntKind.i64.wrap (u.1.2.2.2.2.1+(1:Int)))
 rec ((u.1.1,((),((),(u.1.2.2.2.1,(v18,()))))),((u.2.1.1,(u.2.1.2.1,())),()))
 else none
 else
 some (.inl (((),((),())),((u.2.1.1,(u.2.1.2.1,())),())))
def L_dy_4 (x:i_dy_4.den):Option (denO o_dy_4):=Qb l_dy_4 lots x
def F_dy (x:denP P_dy):FO P_dy R_dy:=
 if 0≤x.2.1 then
 ((x.1.2.2.1)[(x.2.1).toNat]?).bind fun y1=>
 (F_al (y1,())).bind fun r2=>
 (F_dv (x.1.1,x.2.1,())).bind fun r3=>
 (F_aj (x.1.1,x.2.1,())).bind fun r4=>
 (L_dy_4 ((x.1,((),((),(r4.1.1,((0:Int),()))))),(((([]:List (den YI)),((0:Int),(([]:List (den YI)),(false,(false,(false,((0:Int),(([]:List (den YI)),(([]:List (den YI)),(([]:List (den Y38)),(([]:List (den YI)),()))))))))))),((r2.1.1.1,(r2.1.1.2.1,(r2.1.1.2.2.1,(r2.1.1.2.2.2.1,(r2.1.1.2.2.2.2.1,(r2.1.1.2.2.2.2.2.1,(r2.1.1.2.2.2.2.2.2.1,(r2.1.1.2.2.2.2.2.2.2.1,(r2.1.1.2.2.2.2.2.2.2.2.1,(r3.1.1,((List.replicate ((64:Int)).toNat (Qbf YI)),()))))))))))),())),()))).bind fun z19=>
 match z19 with
 | .inl x20=>
  some ((x20.2.1.2.1,()),())
 | .inr z19_=>
  none
 else none
abbrev C_dy:Con:=⟨P_dy,R_dy,F_dy,false⟩
abbrev G_dy:Env:=[(75,C_dx),(76,C_dw),(98,C_al),(100,C_aj),(122,C_dv)]
theorem g_dy:Be G_dy:=(Qa s_dx (Qa s_dw (Qa s_al (Qa s_aj (Qa s_dv Qc)))))
abbrev c_dy_4:Cut:=⟨i_dy_4,o_dy_4,fun x=>Qb l_dy_4 lots x⟩
theorem k_dy_4:Bu 52 (.loop (nav Tryz.f65 [1,1,1,0,1,0,0])) c_dy_4:=
  Qd (L:=[]) hT g_dy (fun _ _=>by kernel_rfl) okP _
theorem r_dy (x):QA T G_dy [(4,c_dy_4)] Tryz.f65 C_dy.ps C_dy.rs x=C_dy.F x:=by kernel_rfl
theorem s_dy:Bc 65 C_dy:=fnC (L:=[(4,c_dy_4)]) hT g_dy Tryz.f65 (okS okP (okS okP (okS okP (okS (okS okP (okB (okU k_dy_4))) okP)))) r_dy
abbrev R_dz:List VK:=[.g [.dat YI,.dat Y30,.dat YI,.dat Y30,.dat .bool,.dat .bool,.dat .bool,.dat YI,.dat Y30,.dat Y30,.dat Y26,.own 2 YI]]
def F_dz (x:denP P_dp):FO P_dp R_dz:=
 (F_du (x.1,())).bind fun r1=>
 if (r1.1.1 !=(0:Int)) then
 some (((r1.1.1,(([]:List (den YI)),((0:Int),(([]:List (den YI)),(false,(false,(false,((0:Int),(([]:List (den YI)),(([]:List (den YI)),(([]:List (den Y38)),(([]:List (den YI)),())))))))))))),()),())
 else
 (F_h (x.1.1,x.2.1,())).bind fun r2=>
 if (!r2.1.1) then
 some ((((4:Int),(([]:List (den YI)),((0:Int),(([]:List (den YI)),(false,(false,(false,((0:Int),(([]:List (den YI)),(([]:List (den YI)),(([]:List (den Y38)),(([]:List (den YI)),())))))))))))),()),())
 else
 (F_dy (x.1,x.2.1,())).bind fun r3=>
 some ((((0:Int),r3.1.1),()),())
abbrev C_dz:Con:=⟨P_dp,R_dz,F_dz,false⟩
theorem s_dz:Bc 24 C_dz:=fnE (Qa s_du (Qa s_h (Qa s_dy Qc))) Tryz.f24
abbrev i_ea_6:Shp:={ slots:=[(1,.s (.dat YI)),(15,.s (.dat Y26)),(16,.s (.dat YI)),(17,.s (.dat YI))],boxes:=[],rows:=[] }
abbrev o_ea_6:List (Ex×Shp):=[(.exit 1,{ slots:=[],boxes:=[],rows:=[] }),(.ret,{ slots:=[(4,.s (.dat YI))],boxes:=[],rows:=[] })]
def l_ea_6 (rec:i_ea_6.den→Option (denO o_ea_6)) (u:i_ea_6.den):Option (denO o_ea_6):=
 if (ltI u.1.2.2.2.1 u.1.2.2.1) then
 if 0≤u.1.2.2.2.1 then
 ((u.1.2.1)[(u.1.2.2.2.1).toNat]?).bind fun y7=>
 let v8:=(IntKind.i64.wrap (u.1.1-(1:Int)))
 (F_cc (y7.1,(-1:Int),v8,())).bind fun r9=>
 if (!r9.1.1)=false then
 (F_cc (y7.2.1,(0:Int),(7:Int),())).bind fun r10=>
 if (!r10.1.1) then
 some (.inr (.inl (((3:Int),()),((),()))))
 else
 if (y7.1==(-1:Int))=true then
 if (y7.2.1 !=(0:Int)) then
 some (.inr (.inl (((1:Int),()),((),()))))
 else
 let v11:=(IntKind.i64.wrap (u.1.2.2.2.1+(1:Int)))
 rec ((u.1.1,(u.1.2.1,(u.1.2.2.1,(v11,())))),((),()))
 else
 let v12:=(IntKind.i64.wrap (u.1.2.2.2.1+(1:Int)))
 rec ((u.1.1,(u.1.2.1,(u.1.2.2.1,(v12,())))),((),()))
 else
 some (.inr (.inl (((3:Int),()),((),()))))
 else none
 else
 some (.inl ((),((),())))
def L_ea_6 (x:i_ea_6.den):Option (denO o_ea_6):=Qb l_ea_6 lots x
def F_ea (x:denP P_dj):FO P_dj R_c:=
 (F_cc (x.2.1,(1:Int),(24:Int),())).bind fun r1=>
 if (!r1.1.1) then
 some (((3:Int),()),())
 else
 let v2:=((x.1.length:Nat):Int)
 if (v2 !=(8:Int)) then
 some (((1:Int),()),())
 else
 let v3:=((x.1.length:Nat):Int)
 (L_ea_6 ((x.2.1,(x.1,(v3,((0:Int),())))),((),()))).bind fun z13=>
 match z13 with
 | .inl x14=>
  some (((0:Int),()),())
 | .inr z13_=>
  match z13_ with
  | .inl x15=>
   some ((x15.1.1,()),())
  | .inr z13__=>
   none
abbrev C_ea:Con:=⟨P_dj,R_c,F_ea,false⟩
theorem g_ea:Be G_cd:=(Qa s_cc Qc)
abbrev c_ea_6:Cut:=⟨i_ea_6,o_ea_6,fun x=>Qb l_ea_6 lots x⟩
theorem k_ea_6:Bu 44 (.loop (nav Tryz.f78 [1,1,0,1,0,0])) c_ea_6:=
  Qd (L:=[]) hT g_ea (fun _ _=>by kernel_rfl) okP _
theorem r_ea (x):QA T G_cd [(6,c_ea_6)] Tryz.f78 C_ea.ps C_ea.rs x=C_ea.F x:=by kernel_rfl
theorem s_ea:Bc 78 C_ea:=fnC (L:=[(6,c_ea_6)]) hT g_ea Tryz.f78 (okS okP (okS okP (okS (okS okP (okB (okU k_ea_6))) okP))) r_ea
abbrev i_eb_2:Shp:={ slots:=[(5,.s (.dat Y30)),(6,.s (.dat YI)),(7,.s (.dat YI))],boxes:=[],rows:=[] }
def l_eb_2 (rec:i_eb_2.den→Option (denO o_l_4)) (u:i_eb_2.den):Option (denO o_l_4):=
 if (ltI u.1.2.2.1 u.1.2.1) then
 if 0≤u.1.2.2.1 then
 ((u.1.1)[(u.1.2.2.1).toNat]?).bind fun y3=>
 if (y3 !=(0:Int)) then
 some (.inr (.inl ((y3,()),((),()))))
 else
 let v4:=(IntKind.i64.wrap (u.1.2.2.1+(1:Int)))
 rec ((u.1.1,(u.1.2.1,(v4,()))),((),()))
 else none
 else
 some (.inl ((),((),())))
def L_eb_2 (x:i_eb_2.den):Option (denO o_l_4):=Qb l_eb_2 lots x
def F_eb (x:denP P_ae):FO P_ae R_c:=
 let v1:=((x.1.length:Nat):Int)
 (L_eb_2 ((x.1,(v1,((0:Int),()))),((),()))).bind fun z5=>
 match z5 with
 | .inl x6=>
  some (((0:Int),()),())
 | .inr z5_=>
  match z5_ with
  | .inl x7=>
   some ((x7.1.1,()),())
  | .inr z5__=>
   none
abbrev C_eb:Con:=⟨P_ae,R_c,F_eb,false⟩
abbrev c_eb_2:Cut:=⟨i_eb_2,o_l_4,fun x=>Qb l_eb_2 lots x⟩
theorem k_eb_2:Bu 15 (.loop (nav Tryz.f40 [1,0,1,0,0])) c_eb_2:=
  Qd (L:=[]) hT g_a (fun _ _=>by kernel_rfl) okP _
theorem r_eb (x):QA T G_a [(2,c_eb_2)] Tryz.f40 C_eb.ps C_eb.rs x=C_eb.F x:=by kernel_rfl
theorem s_eb:Bc 40 C_eb:=fnC (L:=[(2,c_eb_2)]) hT g_a Tryz.f40 (okS okP (okS (okS okP (okB (okU k_eb_2))) okP)) r_eb
abbrev P_ec:List PK:=[.val Y66]
def F_ec (x:denP P_ec):FO P_ec R_c:=
 (F_dc (x.1.1,())).bind fun r1=>
 (F_ea (x.1.2.1,(8:Int),())).bind fun r2=>
 (F_eb ([r1.1.1,r2.1.1],())).bind fun r3=>
 if (r3.1.1 !=(0:Int)) then
 some ((r3.1.1,()),())
 else
 (F_da (x.1.2.2.1,())).bind fun r4=>
 if (r4.1.1 !=(0:Int))=false then
 let v5:=((x.1.2.2.1.length:Nat):Int)
 if (v5 !=(64:Int)) then
 some (((1:Int),()),())
 else
 some (((0:Int),()),())
 else
 some (((1:Int),()),())
abbrev C_ec:Con:=⟨P_ec,R_c,F_ec,false⟩
theorem s_ec:Bc 28 C_ec:=fnE (Qa s_eb (Qa s_da (Qa s_dc (Qa s_ea Qc)))) Tryz.f28
abbrev P_ed_1:List PK:=[.val Y32,.ptr YI]
def F_ed_1 (x:denP P_ed_1):FO P_ed_1 R_a:=
 let v1:=(IntKind.i64.wrap (x.1.2.2.2.2.2.1+x.2.1))
 some (((ltI (1000000:Int) v1),()),())
abbrev C_ed_1:Con:=⟨P_ed_1,R_a,F_ed_1,false⟩
theorem s_ed_1:Bc 119 C_ed_1:=fnE g_a Tryz.f119
abbrev P_ee_1:List PK:=[.val Y164,.fn 119 [YI]]
abbrev i_ef_2:Shp:={ slots:=[(0,.s (.dat Y164)),(1,.s (.fn 119 [YI])),(7,.s (.dat YI)),(8,.s (.dat YI))],boxes:=[],rows:=[] }
def l_ef_2 (rec:i_ef_2.den→Option (denO o_j_2)) (u:i_ef_2.den):Option (denO o_j_2):=
 if (ltI u.1.2.2.2.1 u.1.2.2.1) then
 if 0≤u.1.2.2.2.1 then
 ((u.1.1)[(u.1.2.2.2.1).toNat]?).bind fun y4=>
 (F_ed_1 (y4,u.1.2.1.1,())).bind fun r5=>
 if r5.1.1 then
 some (.inr (.inl ((u.1.2.2.2.1,()),((),()))))
 else
 let v6:=(IntKind.i64.wrap (u.1.2.2.2.1+(1:Int)))
 rec ((u.1.1,((u.1.2.1.1,()),(u.1.2.2.1,(v6,())))),((),()))
 else none
 else
 some (.inl ((),((),())))
def L_ef_2 (x:i_ef_2.den):Option (denO o_j_2):=Qb l_ef_2 lots x
def F_ee_1 (x:denP P_ee_1):FO P_ee_1 R_c:=
 let v1:=((x.1.length:Nat):Int)
 (L_ef_2 ((x.1,((x.2.1.1,()),(v1,((0:Int),())))),((),()))).bind fun z7=>
 match z7 with
 | .inl x8=>
  some (((-1:Int),()),())
 | .inr z7_=>
  match z7_ with
  | .inl x9=>
   some ((x9.1.1,()),())
  | .inr z7__=>
   none
abbrev C_ee_1:Con:=⟨P_ee_1,R_c,F_ee_1,false⟩
abbrev G_ee_1:Env:=[(119,C_ed_1)]
theorem g_ee_1:Be G_ee_1:=(Qa s_ed_1 Qc)
abbrev c_ef_2:Cut:=⟨i_ef_2,o_j_2,fun x=>Qb l_ef_2 lots x⟩
theorem k_ef_2:Bu 19 (.loop (nav Tryz.f172 [1,0,1,0,0])) c_ef_2:=
  Qd (L:=[]) hT g_ee_1 (fun _ _=>by kernel_rfl) okP _
theorem r_ee_1 (x):QA T G_ee_1 [(2,c_ef_2)] Tryz.f172 C_ee_1.ps C_ee_1.rs x=C_ee_1.F x:=by kernel_rfl
theorem s_ee_1:Bc 172 C_ee_1:=fnC (L:=[(2,c_ef_2)]) hT g_ee_1 Tryz.f172 (okS okP (okS (okS okP (okB (okU k_ef_2))) okP)) r_ee_1
def F_eg_1 (x:denP P_ee_1):FO P_ee_1 R_a:=
 (F_ee_1 (x.1,(x.2.1.1,()),())).bind fun r1=>
 some (((leI (0:Int) r1.1.1),()),())
abbrev C_eg_1:Con:=⟨P_ee_1,R_a,F_eg_1,false⟩
theorem s_eg_1:Bc 118 C_eg_1:=fnE (Qa s_ee_1 Qc) Tryz.f118
abbrev P_ed:List PK:=[.val YI,.val Y164]
def F_ed (x:denP P_ed):FO P_ed R_c:=
 (F_cc (x.1,(0:Int),(200:Int),())).bind fun r1=>
 if (!r1.1.1)=false then
 (F_eg_1 (x.2.1,(x.1,()),())).bind fun r2=>
 if r2.1.1 then
 some (((3:Int),()),())
 else
 some (((0:Int),()),())
 else
 some (((3:Int),()),())
abbrev C_ed:Con:=⟨P_ed,R_c,F_ed,false⟩
theorem s_ed:Bc 57 C_ed:=fnE (Qa s_cc (Qa s_eg_1 Qc)) Tryz.f57
abbrev P_eh:List PK:=[.val Y24]
def F_eh (x:denP P_eh):FO P_eh R_v:=
 if (([]:List (den Y30)).length+x.1.length)*24≤140737488355328 then some (([]++x.1,()),()) else none
abbrev C_eh:Con:=⟨P_eh,R_v,F_eh,false⟩
theorem s_eh:Bc 135 C_eh:=
  QcN hT (fn:=Tryz.f135) (cn:=C_eh) (c0:=nav Tryz.f135 [0]) (ca:=nav Tryz.f135 [1,0,1,0]) (cb:=nav Tryz.f135 [1,1]) (id:=1) (d:=4) (nm:=1032000) (o1:=Qel Tryz.f135 [1,0,0] 0) (o2:=Qel Tryz.f135 [1,0,0] 1)
    (t:=24) (t':=24) (x:= .tmp 3) (r:=⟨Y24,[],30,24,3000030⟩) (u:=Y30) (by kernel_rfl) (by kernel_rfl) (by kernel_rfl) ⟨by kernel_rfl,by kernel_rfl⟩ (fun y=>by kernel_rfl) (by kernel_rfl) (by kernel_rfl) (by kernel_rfl) (by kernel_rfl) (by kernel_rfl) rfl
    (fun y=>(st0 Tryz.f135 P_eh y).set 2 (.s .nls)) (fun y=>((st0 Tryz.f135 P_eh y).set 2 (.s .nls)).set 3 (.s (.d (.slice Y30) y.1))) (fun y=>y.1)
    (fun y=>by kernel_rfl) (fun y=>by kernel_rfl) (fun y=>by kernel_rfl) (fun y=>Nat.le_of_ble_eq_true (by kernel_rfl)) (fun y=>by kernel_rfl) (by kernel_rfl) (by kernel_rfl) (by kernel_rfl) (fun y=>by kernel_rfl)
    (fun y h=>by obtain ⟨l,v⟩:=y; have h:l=[]:=h; subst h; show run _ _ _ _ _ _=F_eh ([],v); kernel_rfl) (fun y=>by kernel_rfl)
abbrev P_ei:List PK:=[.val Y25]
abbrev R_ei:List VK:=[.s (.own 123 Y122)]
def F_ei (x:denP P_ei):FO P_ei R_ei:=
 if (([]:List (den Y122)).length+x.1.length)*40≤140737488355328 then some (([]++x.1,()),()) else none
abbrev C_ei:Con:=⟨P_ei,R_ei,F_ei,false⟩
theorem s_ei:Bc 136 C_ei:=
  QcN hT (fn:=Tryz.f136) (cn:=C_ei) (c0:=nav Tryz.f136 [0]) (ca:=nav Tryz.f136 [1,0,1,0]) (cb:=nav Tryz.f136 [1,1]) (id:=1) (d:=4) (nm:=1032000) (o1:=Qel Tryz.f136 [1,0,0] 0) (o2:=Qel Tryz.f136 [1,0,0] 1)
    (t:=25) (t':=25) (x:= .tmp 3) (r:=⟨Y25,[],123,24,0⟩) (u:=Y122) (by kernel_rfl) (by kernel_rfl) (by kernel_rfl) ⟨by kernel_rfl,by kernel_rfl⟩ (fun y=>by kernel_rfl) (by kernel_rfl) (by kernel_rfl) (by kernel_rfl) (by kernel_rfl) (by kernel_rfl) rfl
    (fun y=>(st0 Tryz.f136 P_ei y).set 2 (.s .nls)) (fun y=>((st0 Tryz.f136 P_ei y).set 2 (.s .nls)).set 3 (.s (.d (.slice Y122) y.1))) (fun y=>y.1)
    (fun y=>by kernel_rfl) (fun y=>by kernel_rfl) (fun y=>by kernel_rfl) (fun y=>Nat.le_of_ble_eq_true (by kernel_rfl)) (fun y=>by kernel_rfl) (by kernel_rfl) (by kernel_rfl) (by kernel_rfl) (fun y=>by kernel_rfl)
    (fun y h=>by obtain ⟨l,v⟩:=y; have h:l=[]:=h; subst h; show run _ _ _ _ _ _=F_ei ([],v); kernel_rfl) (fun y=>by kernel_rfl)
abbrev P_ej:List PK:=[.val Y26]
abbrev R_ej:List VK:=[.s (.own 53 Y38)]
def F_ej (x:denP P_ej):FO P_ej R_ej:=
 if (([]:List (den Y38)).length+x.1.length)*16≤140737488355328 then some (([]++x.1,()),()) else none
abbrev C_ej:Con:=⟨P_ej,R_ej,F_ej,false⟩
theorem s_ej:Bc 137 C_ej:=
  QcN hT (fn:=Tryz.f137) (cn:=C_ej) (c0:=nav Tryz.f137 [0]) (ca:=nav Tryz.f137 [1,0,1,0]) (cb:=nav Tryz.f137 [1,1]) (id:=1) (d:=4) (nm:=1032000) (o1:=Qel Tryz.f137 [1,0,0] 0) (o2:=Qel Tryz.f137 [1,0,0] 1)
    (t:=26) (t':=26) (x:= .tmp 3) (r:=⟨Y26,[],53,24,0⟩) (u:=Y38) (by kernel_rfl) (by kernel_rfl) (by kernel_rfl) ⟨by kernel_rfl,by kernel_rfl⟩ (fun y=>by kernel_rfl) (by kernel_rfl) (by kernel_rfl) (by kernel_rfl) (by kernel_rfl) (by kernel_rfl) rfl
    (fun y=>(st0 Tryz.f137 P_ej y).set 2 (.s .nls)) (fun y=>((st0 Tryz.f137 P_ej y).set 2 (.s .nls)).set 3 (.s (.d (.slice Y38) y.1))) (fun y=>y.1)
    (fun y=>by kernel_rfl) (fun y=>by kernel_rfl) (fun y=>by kernel_rfl) (fun y=>Nat.le_of_ble_eq_true (by kernel_rfl)) (fun y=>by kernel_rfl) (by kernel_rfl) (by kernel_rfl) (by kernel_rfl) (fun y=>by kernel_rfl)
    (fun y h=>by obtain ⟨l,v⟩:=y; have h:l=[]:=h; subst h; show run _ _ _ _ _ _=F_ej ([],v); kernel_rfl) (fun y=>by kernel_rfl)
abbrev R_ek:List VK:=[.s (.own 39 Y38)]
def F_ek (x:denP P_ej):FO P_ej R_ek:=
 if (([]:List (den Y38)).length+x.1.length)*16≤140737488355328 then some (([]++x.1,()),()) else none
abbrev C_ek:Con:=⟨P_ej,R_ek,F_ek,false⟩
theorem s_ek:Bc 138 C_ek:=
  QcN hT (fn:=Tryz.f138) (cn:=C_ek) (c0:=nav Tryz.f138 [0]) (ca:=nav Tryz.f138 [1,0,1,0]) (cb:=nav Tryz.f138 [1,1]) (id:=1) (d:=4) (nm:=1032000) (o1:=Qel Tryz.f138 [1,0,0] 0) (o2:=Qel Tryz.f138 [1,0,0] 1)
    (t:=27) (t':=27) (x:= .tmp 3) (r:=⟨Y26,[],39,24,0⟩) (u:=Y38) (by kernel_rfl) (by kernel_rfl) (by kernel_rfl) ⟨by kernel_rfl,by kernel_rfl⟩ (fun y=>by kernel_rfl) (by kernel_rfl) (by kernel_rfl) (by kernel_rfl) (by kernel_rfl) (by kernel_rfl) rfl
    (fun y=>(st0 Tryz.f138 P_ej y).set 2 (.s .nls)) (fun y=>((st0 Tryz.f138 P_ej y).set 2 (.s .nls)).set 3 (.s (.d (.slice Y38) y.1))) (fun y=>y.1)
    (fun y=>by kernel_rfl) (fun y=>by kernel_rfl) (fun y=>by kernel_rfl) (fun y=>Nat.le_of_ble_eq_true (by kernel_rfl)) (fun y=>by kernel_rfl) (by kernel_rfl) (by kernel_rfl) (by kernel_rfl) (fun y=>by kernel_rfl)
    (fun y h=>by obtain ⟨l,v⟩:=y; have h:l=[]:=h; subst h; show run _ _ _ _ _ _=F_ek ([],v); kernel_rfl) (fun y=>by kernel_rfl)
abbrev i_el_3:Shp:={ slots:=[(1,.s (.ptr 1 0)),(2,.s (.ptr 2 0)),(10,.s (.dat YI)),(11,.s (.dat YI))],boxes:=[(1,[.own 30 Y30,.dat Y25,.dat Y26,.dat Y26]),(2,[.own 30 Y30,.own 123 Y122,.own 53 Y38,.own 39 Y38])],rows:=[] }
abbrev o_el_3:List (Ex×Shp):=[(.exit 0,{ slots:=[(1,.s (.ptr 1 0)),(2,.s (.ptr 2 0))],boxes:=[(1,[.own 30 Y30,.dat Y25,.dat Y26,.dat Y26]),(2,[.own 30 Y30,.own 123 Y122,.own 53 Y38,.own 39 Y38])],rows:=[] })]
def l_el_3 (rec:i_el_3.den→Option (denO o_el_3)) (u:i_el_3.den):Option (denO o_el_3):=
 if (ltI u.1.2.2.2.1 u.1.2.2.1) then
 if 0≤u.1.2.2.2.1∧u.1.2.2.2.1< ((u.2.1.1.1.length:Nat):Int) then
 ((u.2.1.1.1)[(u.1.2.2.2.1).toNat]?).bind fun y6=>
 (F_dl (y6,())).bind fun r7=>
 if 0≤u.1.2.2.2.1∧u.1.2.2.2.1< ((u.2.1.1.1.length:Nat):Int) then
 ((u.2.1.1.1)[(u.1.2.2.2.1).toNat]?).bind fun y8=>
 let v9:=(u.2.1.1.1.set (u.1.2.2.2.1).toNat r7.1.1)
 let v10:=(IntKind.i64.wrap (u.1.2.2.2.1+(1:Int)))
 rec (((),((),(u.1.2.2.1,(v10,())))),(((v9,(u.2.1.1.2.1,(u.2.1.1.2.2.1,(u.2.1.1.2.2.2.1,())))),(u.2.1.2.1,())),()))
 else none
 else none
 else
 some (.inl (((),((),())),((u.2.1.1,(u.2.1.2.1,())),())))
def L_el_3 (x:i_el_3.den):Option (denO o_el_3):=Qb l_el_3 lots x
def F_el (x:denP P_ac):FO P_ac R_ac:=
 (F_eh (x.1.1,())).bind fun r1=>
 let v2:=((r1.1.1.length:Nat):Int)
 (L_el_3 (((),((),(v2,((0:Int),())))),(((r1.1.1,(x.1.2.1,(x.1.2.2.1,(x.1.2.2.2.1,())))),((([]:List (den Y30)),(([]:List (den Y122)),(([]:List (den Y38)),(([]:List (den Y38)),())))),())),()))).bind fun z11=>
 match z11 with
 | .inl x12=>
  (F_ei (x12.2.1.1.2.1,())).bind fun r13=>
  (F_ej (x12.2.1.1.2.2.1,())).bind fun r14=>
  (F_ek (x12.2.1.1.2.2.2.1,())).bind fun r15=>
  some (((x12.2.1.1.1,(r13.1.1,(r14.1.1,(r15.1.1,())))),()),())
 | .inr z11_=>
  none
abbrev C_el:Con:=⟨P_ac,R_ac,F_el,false⟩
abbrev G_el:Env:=[(87,C_dl),(135,C_eh),(136,C_ei),(137,C_ej),(138,C_ek)]
theorem g_el:Be G_el:=(Qa s_dl (Qa s_eh (Qa s_ei (Qa s_ej (Qa s_ek Qc)))))
abbrev c_el_3:Cut:=⟨i_el_3,o_el_3,fun x=>Qb l_el_3 lots x⟩
theorem k_el_3:Bu 38 (.loop (nav Tryz.f86 [1,1,0,1,0,0])) c_el_3:=
  Qd (L:=[]) hT g_el (fun _ _=>by kernel_rfl) okP _
theorem r_el (x):QA T G_el [(3,c_el_3)] Tryz.f86 C_el.ps C_el.rs x=C_el.F x:=by kernel_rfl
theorem s_el:Bc 86 C_el:=fnC (L:=[(3,c_el_3)]) hT g_el Tryz.f86 (okS okP (okS okP (okS (okS okP (okB (okU k_el_3))) okP))) r_el
abbrev P_em:List PK:=[.val Y31]
abbrev R_em:List VK:=[.s (.own 46 Y45)]
def F_em (x:denP P_em):FO P_em R_em:=
 if (([]:List (den Y45)).length+x.1.length)*120≤140737488355328 then some (([]++x.1,()),()) else none
abbrev C_em:Con:=⟨P_em,R_em,F_em,false⟩
theorem s_em:Bc 88 C_em:=
  QcN hT (fn:=Tryz.f88) (cn:=C_em) (c0:=nav Tryz.f88 [0]) (ca:=nav Tryz.f88 [1,0,1,0]) (cb:=nav Tryz.f88 [1,1]) (id:=1) (d:=4) (nm:=1032000) (o1:=Qel Tryz.f88 [1,0,0] 0) (o2:=Qel Tryz.f88 [1,0,0] 1)
    (t:=31) (t':=31) (x:= .tmp 3) (r:=⟨Y31,[],46,24,3000046⟩) (u:=Y45) (by kernel_rfl) (by kernel_rfl) (by kernel_rfl) ⟨by kernel_rfl,by kernel_rfl⟩ (fun y=>by kernel_rfl) (by kernel_rfl) (by kernel_rfl) (by kernel_rfl) (by kernel_rfl) (by kernel_rfl) rfl
    (fun y=>(st0 Tryz.f88 P_em y).set 2 (.s .nls)) (fun y=>((st0 Tryz.f88 P_em y).set 2 (.s .nls)).set 3 (.s (.d (.slice Y45) y.1))) (fun y=>y.1)
    (fun y=>by kernel_rfl) (fun y=>by kernel_rfl) (fun y=>by kernel_rfl) (fun y=>Nat.le_of_ble_eq_true (by kernel_rfl)) (fun y=>by kernel_rfl) (by kernel_rfl) (by kernel_rfl) (by kernel_rfl) (fun y=>by kernel_rfl)
    (fun y h=>by obtain ⟨l,v⟩:=y; have h:l=[]:=h; subst h; show run _ _ _ _ _ _=F_em ([],v); kernel_rfl) (fun y=>by kernel_rfl)
abbrev i_en_5:Shp:={ slots:=[(1,.s (.ptr 1 0)),(2,.s (.ptr 2 0)),(18,.s (.dat YI)),(19,.s (.dat YI))],boxes:=[(1,[.own 30 Y30,.own 123 Y122,.own 53 Y38,.own 39 Y38,.own 2 YI,.own 46 Y45,.dat YI,.dat YI,.dat YI]),(2,[.own 30 Y30,.own 123 Y122,.own 53 Y38,.own 39 Y38,.own 2 YI,.own 46 Y45,.dat YI,.dat YI,.dat YI])],rows:=[] }
abbrev o_en_5:List (Ex×Shp):=[(.exit 0,{ slots:=[(1,.s (.ptr 1 0)),(2,.s (.ptr 2 0))],boxes:=[(1,[.own 30 Y30,.own 123 Y122,.own 53 Y38,.own 39 Y38,.own 2 YI,.own 46 Y45,.dat YI,.dat YI,.dat YI]),(2,[.own 30 Y30,.own 123 Y122,.own 53 Y38,.own 39 Y38,.own 2 YI,.own 46 Y45,.dat YI,.dat YI,.dat YI])],rows:=[] })]
def l_en_5 (rec:i_en_5.den→Option (denO o_en_5)) (u:i_en_5.den):Option (denO o_en_5):=
 if (ltI u.1.2.2.2.1 u.1.2.2.1) then
 if 0≤u.1.2.2.2.1∧u.1.2.2.2.1< ((u.2.1.1.2.2.2.2.2.1.length:Nat):Int) then
 ((u.2.1.1.2.2.2.2.2.1)[(u.1.2.2.2.1).toNat]?).bind fun y8=>
 (F_dn (y8,())).bind fun r9=>
 if 0≤u.1.2.2.2.1∧u.1.2.2.2.1< ((u.2.1.1.2.2.2.2.2.1.length:Nat):Int) then
 ((u.2.1.1.2.2.2.2.2.1)[(u.1.2.2.2.1).toNat]?).bind fun y10=>
 let v11:=(u.2.1.1.2.2.2.2.2.1.set (u.1.2.2.2.1).toNat r9.1.1)
 let v12:=(IntKind.i64.wrap (u.1.2.2.2.1+(1:Int)))
 rec (((),((),(u.1.2.2.1,(v12,())))),(((u.2.1.1.1,(u.2.1.1.2.1,(u.2.1.1.2.2.1,(u.2.1.1.2.2.2.1,(u.2.1.1.2.2.2.2.1,(v11,(u.2.1.1.2.2.2.2.2.2.1,(u.2.1.1.2.2.2.2.2.2.2.1,(u.2.1.1.2.2.2.2.2.2.2.2.1,()))))))))),(u.2.1.2.1,())),()))
 else none
 else none
 else
 some (.inl (((),((),())),((u.2.1.1,(u.2.1.2.1,())),())))
def L_en_5 (x:i_en_5.den):Option (denO o_en_5):=Qb l_en_5 lots x
def F_en (x:denP P_df):FO P_df R_ah:=
 (F_el (x.1.1,())).bind fun r1=>
 (F_dl (x.1.2.1,())).bind fun r2=>
 (F_em (x.1.2.2.1,())).bind fun r3=>
 let v4:=((r3.1.1.length:Nat):Int)
 (L_en_5 (((),((),(v4,((0:Int),())))),(((r1.1.1.1,(r1.1.1.2.1,(r1.1.1.2.2.1,(r1.1.1.2.2.2.1,(r2.1.1,(r3.1.1,(x.1.2.2.2.1,(x.1.2.2.2.2.1,(x.1.2.2.2.2.2.1,()))))))))),((([]:List (den Y30)),(([]:List (den Y122)),(([]:List (den Y38)),(([]:List (den Y38)),(([]:List (den YI)),(([]:List (den Y45)),((0:Int),((0:Int),((0:Int),()))))))))),())),()))).bind fun z13=>
 match z13 with
 | .inl x14=>
  some ((x14.2.1.1,()),())
 | .inr z13_=>
  none
abbrev C_en:Con:=⟨P_df,R_ah,F_en,false⟩
abbrev G_en:Env:=[(63,C_dn),(86,C_el),(87,C_dl),(88,C_em)]
theorem g_en:Be G_en:=(Qa s_dn (Qa s_el (Qa s_dl (Qa s_em Qc))))
abbrev c_en_5:Cut:=⟨i_en_5,o_en_5,fun x=>Qb l_en_5 lots x⟩
theorem k_en_5:Bu 34 (.loop (nav Tryz.f32 [1,1,1,1,0,1,0,0])) c_en_5:=
  Qd (L:=[]) hT g_en (fun _ _=>by kernel_rfl) okP _
theorem r_en (x):QA T G_en [(5,c_en_5)] Tryz.f32 C_en.ps C_en.rs x=C_en.F x:=by kernel_rfl
theorem s_en:Bc 32 C_en:=fnC (L:=[(5,c_en_5)]) hT g_en Tryz.f32 (okS okP (okS okP (okS okP (okS okP (okS (okS okP (okB (okU k_en_5))) okP))))) r_en
abbrev i_eo_3:Shp:={ slots:=[(0,.s (.dat Y30)),(5,.s (.own 2 YI)),(9,.s (.dat Y30)),(10,.s (.dat YI)),(11,.s (.dat YI))],boxes:=[],rows:=[] }
def l_eo_3 (rec:i_eo_3.den→Option (denO o_aa_3)) (u:i_eo_3.den):Option (denO o_aa_3):=
 if (ltI u.1.2.2.2.2.1 u.1.2.2.2.1) then
 if 0≤u.1.2.2.2.2.1 then
 ((u.1.2.2.1)[(u.1.2.2.2.2.1).toNat]?).bind fun y4=>
 (F_dm (u.1.1,y4,())).bind fun r5=>
 if (u.1.2.1.length+r5.1.1.length)*8≤140737488355328 then
 let v6:=(u.1.2.1++r5.1.1)
 let v7:=(IntKind.i64.wrap (u.1.2.2.2.2.1+(1:Int)))
 rec ((u.1.1,(v6,(u.1.2.2.1,(u.1.2.2.2.1,(v7,()))))),((),()))
 else none
 else none
 else
 some (.inl ((u.1.2.1,()),((),())))
def L_eo_3 (x:i_eo_3.den):Option (denO o_aa_3):=Qb l_eo_3 lots x
def F_eo (x:denP P_dw):FO P_dw R_u:=
 let v1:=((x.2.1.length:Nat):Int)
 (L_eo_3 ((x.1,(([]:List (den YI)),(x.2.1,(v1,((0:Int),()))))),((),()))).bind fun z8=>
 match z8 with
 | .inl x9=>
  some ((x9.1.1,()),())
 | .inr z8_=>
  none
abbrev C_eo:Con:=⟨P_dw,R_u,F_eo,false⟩
abbrev G_eo:Env:=[(43,C_dm)]
theorem g_eo:Be G_eo:=(Qa s_dm Qc)
abbrev c_eo_3:Cut:=⟨i_eo_3,o_aa_3,fun x=>Qb l_eo_3 lots x⟩
theorem k_eo_3:Bu 22 (.loop (nav Tryz.f108 [1,1,0,1,0,0])) c_eo_3:=
  Qd (L:=[]) hT g_eo (fun _ _=>by kernel_rfl) okP _
theorem r_eo (x):QA T G_eo [(3,c_eo_3)] Tryz.f108 C_eo.ps C_eo.rs x=C_eo.F x:=by kernel_rfl
theorem s_eo:Bc 108 C_eo:=fnC (L:=[(3,c_eo_3)]) hT g_eo Tryz.f108 (okS okP (okS okP (okS (okS okP (okB (okU k_eo_3))) okP))) r_eo
abbrev R_ep:List VK:=[.g [.own 2 YI,.dat YI,.own 2 YI,.dat .bool,.dat .bool,.dat .bool,.dat YI,.own 2 YI,.own 2 YI,.own 2 YI,.own 2 YI]]
abbrev i_ep_3:Shp:={ slots:=[(0,.s (.pd Y32)),(1,.s (.dat YI)),(4,.s (.ptr 4 0)),(5,.s (.ptr 5 0)),(34,.s (.dat Y25)),(35,.s (.dat YI)),(36,.s (.dat YI))],boxes:=[(4,[.own 2 YI,.dat YI,.own 2 YI,.dat .bool,.dat .bool,.dat .bool,.dat YI,.own 2 YI,.own 2 YI,.own 2 YI,.own 2 YI]),(5,[.own 2 YI,.dat YI,.own 2 YI,.dat .bool,.dat .bool,.dat .bool,.dat YI,.own 2 YI,.own 2 YI,.own 2 YI,.own 2 YI])],rows:=[] }
abbrev o_ep_3:List (Ex×Shp):=[(.exit 0,{ slots:=[(4,.s (.ptr 4 0)),(5,.s (.ptr 5 0))],boxes:=[(4,[.own 2 YI,.dat YI,.own 2 YI,.dat .bool,.dat .bool,.dat .bool,.dat YI,.own 2 YI,.own 2 YI,.own 2 YI,.own 2 YI]),(5,[.own 2 YI,.dat YI,.own 2 YI,.dat .bool,.dat .bool,.dat .bool,.dat YI,.own 2 YI,.own 2 YI,.own 2 YI,.own 2 YI])],rows:=[] })]
def l_ep_3 (rec:i_ep_3.den→Option (denO o_ep_3)) (u:i_ep_3.den):Option (denO o_ep_3):=
 if (ltI u.1.2.2.2.2.2.2.1 u.1.2.2.2.2.2.1) then
 if 0≤u.1.2.2.2.2.2.2.1 then
 ((u.1.2.2.2.2.1)[(u.1.2.2.2.2.2.2.1).toNat]?).bind fun y8=>
 if (y8.1==u.1.2.1) then
 (F_dm (u.1.1.2.1,y8.2.2.1,())).bind fun r9=>
 if (u.2.1.2.1.2.2.2.2.2.2.2.2.2.2.1.length+r9.1.1.length)*8≤140737488355328 then
 let v10:=(u.2.1.2.1.2.2.2.2.2.2.2.2.2.2.1++r9.1.1)
 let v11:=(IntKind.i64.wrap (u.1.2.2.2.2.2.2.1+(1:Int)))
 rec ((u.1.1,(u.1.2.1,((),((),(u.1.2.2.2.2.1,(u.1.2.2.2.2.2.1,(v11,()))))))),((u.2.1.1,((u.2.1.2.1.1,(u.2.1.2.1.2.1,(u.2.1.2.1.2.2.1,(u.2.1.2.1.2.2.2.1,(u.2.1.2.1.2.2.2.2.1,(u.2.1.2.1.2.2.2.2.2.1,(u.2.1.2.1.2.2.2.2.2.2.1,(u.2.1.2.1.2.2.2.2.2.2.2.1,(u.2.1.2.1.2.2.2.2.2.2.2.2.1,(u.2.1.2.1.2.2.2.2.2.2.2.2.2.1,(v10,()))))))))))),())),()))
 else none
 else
 let v12:=(IntKind.i64.wrap (u.1.2.2.2.2.2.2.1+(1:Int)))
 rec ((u.1.1,(u.1.2.1,((),((),(u.1.2.2.2.2.1,(u.1.2.2.2.2.2.1,(v12,()))))))),((u.2.1.1,(u.2.1.2.1,())),()))
 else none
 else
 some (.inl (((),((),())),((u.2.1.1,(u.2.1.2.1,())),())))
def L_ep_3 (x:i_ep_3.den):Option (denO o_ep_3):=Qb l_ep_3 lots x
def F_ep (x:denP P_dy):FO P_dy R_ep:=
 if 0≤x.2.1 then
 ((x.1.2.2.1)[(x.2.1).toNat]?).bind fun y1=>
 (F_dn (y1,())).bind fun r2=>
 if 0≤x.2.1 then
 ((x.1.1.1)[(x.2.1).toNat]?).bind fun y3=>
 (F_eo (x.1.2.1,y3,())).bind fun r4=>
 let v5:=((x.1.1.2.1.length:Nat):Int)
 (L_ep_3 ((x.1,(x.2.1,((),((),(x.1.1.2.1,(v5,((0:Int),()))))))),(((([]:List (den YI)),((0:Int),(([]:List (den YI)),(false,(false,(false,((0:Int),(([]:List (den YI)),(([]:List (den YI)),(([]:List (den YI)),(([]:List (den YI)),()))))))))))),((r2.1.1.1,(r2.1.1.2.1,(r2.1.1.2.2.1,(r2.1.1.2.2.2.1,(r2.1.1.2.2.2.2.1,(r2.1.1.2.2.2.2.2.1,(r2.1.1.2.2.2.2.2.2.1,(r2.1.1.2.2.2.2.2.2.2.1,(r2.1.1.2.2.2.2.2.2.2.2.1,(r4.1.1,(([]:List (den YI)),()))))))))))),())),()))).bind fun z13=>
 match z13 with
 | .inl x14=>
  some ((x14.2.1.2.1,()),())
 | .inr z13_=>
  none
 else none
 else none
abbrev C_ep:Con:=⟨P_dy,R_ep,F_ep,false⟩
abbrev G_ep:Env:=[(43,C_dm),(63,C_dn),(108,C_eo)]
theorem g_ep:Be G_ep:=(Qa s_dm (Qa s_dn (Qa s_eo Qc)))
abbrev c_ep_3:Cut:=⟨i_ep_3,o_ep_3,fun x=>Qb l_ep_3 lots x⟩
theorem k_ep_3:Bu 57 (.loop (nav Tryz.f45 [1,1,0,1,0,0])) c_ep_3:=
  Qd (L:=[]) hT g_ep (fun _ _=>by kernel_rfl) okP _
theorem r_ep (x):QA T G_ep [(3,c_ep_3)] Tryz.f45 C_ep.ps C_ep.rs x=C_ep.F x:=by kernel_rfl
theorem s_ep:Bc 45 C_ep:=fnC (L:=[(3,c_ep_3)]) hT g_ep Tryz.f45 (okS okP (okS okP (okS (okS okP (okB (okU k_ep_3))) okP))) r_ep
abbrev P_eq:List PK:=[.val Y66,.ptr Y28,.val YI]
abbrev i_eq_3:Shp:={ slots:=[(2,.s (.dat YI)),(3,.s (.ptr 3 0)),(6,.s (.ptr 6 0)),(7,.s (.ptr 7 0)),(30,.s (.dat Y25)),(31,.s (.dat YI)),(32,.s (.dat YI))],boxes:=[(3,[.dat Y30,.dat YI,.dat Y30,.dat .bool,.dat .bool,.dat .bool,.dat YI,.dat Y30,.dat Y30,.dat Y26,.dat Y30]),(6,[.own 2 YI,.dat YI,.own 2 YI,.dat .bool,.dat .bool,.dat .bool,.dat YI,.own 2 YI,.own 2 YI,.own 2 YI,.own 2 YI]),(7,[.own 2 YI,.dat YI,.own 2 YI,.dat .bool,.dat .bool,.dat .bool,.dat YI,.own 2 YI,.own 2 YI,.own 2 YI,.own 2 YI])],rows:=[] }
abbrev o_eq_3:List (Ex×Shp):=[(.exit 0,{ slots:=[(6,.s (.ptr 6 0)),(7,.s (.ptr 7 0))],boxes:=[(6,[.own 2 YI,.dat YI,.own 2 YI,.dat .bool,.dat .bool,.dat .bool,.dat YI,.own 2 YI,.own 2 YI,.own 2 YI,.own 2 YI]),(7,[.own 2 YI,.dat YI,.own 2 YI,.dat .bool,.dat .bool,.dat .bool,.dat YI,.own 2 YI,.own 2 YI,.own 2 YI,.own 2 YI])],rows:=[] })]
def l_eq_3 (rec:i_eq_3.den→Option (denO o_eq_3)) (u:i_eq_3.den):Option (denO o_eq_3):=
 if (ltI u.1.2.2.2.2.2.2.1 u.1.2.2.2.2.2.1) then
 if 0≤u.1.2.2.2.2.2.2.1 then
 ((u.1.2.2.2.2.1)[(u.1.2.2.2.2.2.2.1).toNat]?).bind fun y10=>
 if (y10.1==u.1.1) then
 (F_dm (u.2.1.1.2.2.2.2.2.2.2.2.2.2.1,y10.2.2.2.1,())).bind fun r11=>
 if (u.2.1.2.2.1.2.2.2.2.2.2.2.2.2.2.1.length+r11.1.1.length)*8≤140737488355328 then
 let v12:=(u.2.1.2.2.1.2.2.2.2.2.2.2.2.2.2.1++r11.1.1)
 let v13:=(IntKind.i64.wrap (u.1.2.2.2.2.2.2.1+(1:Int)))
 rec ((u.1.1,((),((),((),(u.1.2.2.2.2.1,(u.1.2.2.2.2.2.1,(v13,()))))))),((u.2.1.1,(u.2.1.2.1,((u.2.1.2.2.1.1,(u.2.1.2.2.1.2.1,(u.2.1.2.2.1.2.2.1,(u.2.1.2.2.1.2.2.2.1,(u.2.1.2.2.1.2.2.2.2.1,(u.2.1.2.2.1.2.2.2.2.2.1,(u.2.1.2.2.1.2.2.2.2.2.2.1,(u.2.1.2.2.1.2.2.2.2.2.2.2.1,(u.2.1.2.2.1.2.2.2.2.2.2.2.2.1,(u.2.1.2.2.1.2.2.2.2.2.2.2.2.2.1,(v12,()))))))))))),()))),()))
 else none
 else
 let v14:=(IntKind.i64.wrap (u.1.2.2.2.2.2.2.1+(1:Int)))
 rec ((u.1.1,((),((),((),(u.1.2.2.2.2.1,(u.1.2.2.2.2.2.1,(v14,()))))))),((u.2.1.1,(u.2.1.2.1,(u.2.1.2.2.1,()))),()))
 else none
 else
 some (.inl (((),((),())),((u.2.1.2.1,(u.2.1.2.2.1,())),())))
def L_eq_3 (x:i_eq_3.den):Option (denO o_eq_3):=Qb l_eq_3 lots x
def F_eq (x:denP P_eq):FO P_eq R_ep:=
 (F_dn (x.1.1,())).bind fun r1=>
 if 0≤x.2.2.1 then
 ((x.2.1.1)[(x.2.2.1).toNat]?).bind fun y2=>
 let v3:=((y2.length:Nat):Int)
 let v4:=(IntKind.i64.wrap (v3*(8:Int)))
 if 0≤(0:Int)∧(0:Int)≤v4∧v4≤((x.1.2.2.1.length:Nat):Int) then
 let v5:=((x.1.2.2.1.drop ((0:Int)).toNat).take ((v4).toNat-((0:Int)).toNat))
 (F_dl (v5,())).bind fun r6=>
 let v7:=((x.2.1.2.1.length:Nat):Int)
 (L_eq_3 ((x.2.2.1,((),((),((),(x.2.1.2.1,(v7,((0:Int),()))))))),(((x.1.1.1,(x.1.1.2.1,(x.1.1.2.2.1,(x.1.1.2.2.2.1,(x.1.1.2.2.2.2.1,(x.1.1.2.2.2.2.2.1,(x.1.1.2.2.2.2.2.2.1,(x.1.1.2.2.2.2.2.2.2.1,(x.1.1.2.2.2.2.2.2.2.2.1,(x.1.2.1,(x.1.2.2.1,()))))))))))),((([]:List (den YI)),((0:Int),(([]:List (den YI)),(false,(false,(false,((0:Int),(([]:List (den YI)),(([]:List (den YI)),(([]:List (den YI)),(([]:List (den YI)),()))))))))))),((r1.1.1.1,(r1.1.1.2.1,(r1.1.1.2.2.1,(r1.1.1.2.2.2.1,(r1.1.1.2.2.2.2.1,(r1.1.1.2.2.2.2.2.1,(r1.1.1.2.2.2.2.2.2.1,(r1.1.1.2.2.2.2.2.2.2.1,(r1.1.1.2.2.2.2.2.2.2.2.1,(r6.1.1,(([]:List (den YI)),()))))))))))),()))),()))).bind fun z15=>
 match z15 with
 | .inl x16=>
  some ((x16.2.1.2.1,()),())
 | .inr z15_=>
  none
 else none
 else none
abbrev C_eq:Con:=⟨P_eq,R_ep,F_eq,false⟩
abbrev G_eq:Env:=[(43,C_dm),(63,C_dn),(87,C_dl)]
theorem g_eq:Be G_eq:=(Qa s_dm (Qa s_dn (Qa s_dl Qc)))
abbrev c_eq_3:Cut:=⟨i_eq_3,o_eq_3,fun x=>Qb l_eq_3 lots x⟩
theorem k_eq_3:Bu 51 (.loop (nav Tryz.f67 [1,1,0,1,0,0])) c_eq_3:=
  Qd (L:=[]) hT g_eq (fun _ _=>by kernel_rfl) okP _
theorem r_eq (x):QA T G_eq [(3,c_eq_3)] Tryz.f67 C_eq.ps C_eq.rs x=C_eq.F x:=by kernel_rfl
theorem s_eq:Bc 67 C_eq:=fnC (L:=[(3,c_eq_3)]) hT g_eq Tryz.f67 (okS okP (okS okP (okS (okS okP (okB (okU k_eq_3))) okP))) r_eq
abbrev i_er_4:Shp:={ slots:=[(0,.s (.dat Y30)),(1,.s (.dat Y30)),(12,.s (.dat YI)),(13,.s (.dat YI))],boxes:=[],rows:=[] }
def l_er_4 (rec:i_er_4.den→Option (denO o_f_2)) (u:i_er_4.den):Option (denO o_f_2):=
 if (ltI u.1.2.2.2.1 u.1.2.2.1) then
 if 0≤u.1.2.2.2.1 then
 ((u.1.1)[(u.1.2.2.2.1).toNat]?).bind fun y6=>
 if 0≤u.1.2.2.2.1 then
 ((u.1.2.1)[(u.1.2.2.2.1).toNat]?).bind fun y7=>
 if (y6 !=y7) then
 some (.inr (.inl ((false,()),((),()))))
 else
 let v8:=(IntKind.i64.wrap (u.1.2.2.2.1+(1:Int)))
 rec ((u.1.1,(u.1.2.1,(u.1.2.2.1,(v8,())))),((),()))
 else none
 else none
 else
 some (.inl ((),((),())))
def L_er_4 (x:i_er_4.den):Option (denO o_f_2):=Qb l_er_4 lots x
def F_er (x:denP P_dw):FO P_dw R_a:=
 let v1:=((x.1.length:Nat):Int)
 let v2:=((x.2.1.length:Nat):Int)
 if (v1 !=v2) then
 some ((false,()),())
 else
 let v3:=((x.1.length:Nat):Int)
 (L_er_4 ((x.1,(x.2.1,(v3,((0:Int),())))),((),()))).bind fun z9=>
 match z9 with
 | .inl x10=>
  some ((true,()),())
 | .inr z9_=>
  match z9_ with
  | .inl x11=>
   some ((x11.1.1,()),())
  | .inr z9__=>
   none
abbrev C_er:Con:=⟨P_dw,R_a,F_er,false⟩
abbrev c_er_4:Cut:=⟨i_er_4,o_f_2,fun x=>Qb l_er_4 lots x⟩
theorem k_er_4:Bu 26 (.loop (nav Tryz.f42 [1,1,0,1,0,0])) c_er_4:=
  Qd (L:=[]) hT g_a (fun _ _=>by kernel_rfl) okP _
theorem r_er (x):QA T G_a [(4,c_er_4)] Tryz.f42 C_er.ps C_er.rs x=C_er.F x:=by kernel_rfl
theorem s_er:Bc 42 C_er:=fnC (L:=[(4,c_er_4)]) hT g_a Tryz.f42 (okS okP (okS okP (okS (okS okP (okB (okU k_er_4))) okP))) r_er
abbrev P_es:List PK:=[.val Y45,.val Y45]
def F_es (x:denP P_es):FO P_es R_a:=
 (F_er (x.1.1,x.2.1.1,())).bind fun r1=>
 if r1.1.1=true then
 if (x.1.2.1==x.2.1.2.1)=true then
 (F_er (x.1.2.2.1,x.2.1.2.2.1,())).bind fun r2=>
 if r2.1.1=true then
 if (x.1.2.2.2.1==x.2.1.2.2.2.1)=true then
 if (x.1.2.2.2.2.1==x.2.1.2.2.2.2.1)=true then
 if (x.1.2.2.2.2.2.1==x.2.1.2.2.2.2.2.1)=true then
 if (x.1.2.2.2.2.2.2.1==x.2.1.2.2.2.2.2.2.1)=true then
 (F_er (x.1.2.2.2.2.2.2.2.1,x.2.1.2.2.2.2.2.2.2.1,())).bind fun r3=>
 if r3.1.1=true then
 (F_er (x.1.2.2.2.2.2.2.2.2.1,x.2.1.2.2.2.2.2.2.2.2.1,())).bind fun r4=>
 some ((r4.1.1,()),())
 else
 some ((false,()),())
 else
 some ((false,()),())
 else
 some ((false,()),())
 else
 some ((false,()),())
 else
 some ((false,()),())
 else
 some ((false,()),())
 else
 some ((false,()),())
 else
 some ((false,()),())
abbrev C_es:Con:=⟨P_es,R_a,F_es,false⟩
theorem s_es:Bc 46 C_es:=fnE (Qa s_er Qc) Tryz.f46
abbrev P_et:List PK:=[.val Y47,.val Y47]
def F_et (x:denP P_et):FO P_et R_a:=
 (F_es (x.1.1,x.2.1.1,())).bind fun r1=>
 if r1.1.1=true then
 (F_er (x.1.2.1,x.2.1.2.1,())).bind fun r2=>
 if r2.1.1=true then
 (F_er (x.1.2.2.1,x.2.1.2.2.1,())).bind fun r3=>
 some ((r3.1.1,()),())
 else
 some ((false,()),())
 else
 some ((false,()),())
abbrev C_et:Con:=⟨P_et,R_a,F_et,false⟩
theorem s_et:Bc 14 C_et:=fnE (Qa s_er (Qa s_es Qc)) Tryz.f14
def F_eu (x:denP P_et):FO P_et R_a:=
 (F_et (((x.1.1.1,(x.1.1.2.1,(x.1.1.2.2.1,(x.1.1.2.2.2.1,(x.1.1.2.2.2.2.1,(x.2.1.1.2.2.2.2.2.1,x.1.1.2.2.2.2.2.2)))))),x.1.2),x.2.1,())).bind fun r1=>
 some ((r1.1.1,()),())
abbrev C_eu:Con:=⟨P_et,R_a,F_eu,false⟩
theorem s_eu:Bc 66 C_eu:=fnE (Qa s_et Qc) Tryz.f66
def F_ev (x:denP P_du):FO P_du R_c:=
 if 0≤x.1.2.2.2.1 then
 ((x.1.1.2.2.2.1)[(x.1.2.2.2.1).toNat]?).bind fun y1=>
 some ((y1.1,()),())
 else none
abbrev C_ev:Con:=⟨P_du,R_c,F_ev,false⟩
theorem s_ev:Bc 68 C_ev:=fnE g_a Tryz.f68
def F_ew (x:denP P_ej):FO P_ej R_aj:=
 if (([]:List (den Y38)).length+x.1.length)*16≤140737488355328 then some (([]++x.1,()),()) else none
abbrev C_ew:Con:=⟨P_ej,R_aj,F_ew,false⟩
theorem s_ew:Bc 220 C_ew:=
  QcN hT (fn:=Tryz.f220) (cn:=C_ew) (c0:=nav Tryz.f220 [0]) (ca:=nav Tryz.f220 [1,0,1,0]) (cb:=nav Tryz.f220 [1,1]) (id:=1) (d:=4) (nm:=1032000) (o1:=Qel Tryz.f220 [1,0,0] 0) (o2:=Qel Tryz.f220 [1,0,0] 1)
    (t:=65) (t':=65) (x:= .tmp 3) (r:=⟨Y26,[],88,24,0⟩) (u:=Y38) (by kernel_rfl) (by kernel_rfl) (by kernel_rfl) ⟨by kernel_rfl,by kernel_rfl⟩ (fun y=>by kernel_rfl) (by kernel_rfl) (by kernel_rfl) (by kernel_rfl) (by kernel_rfl) (by kernel_rfl) rfl
    (fun y=>(st0 Tryz.f220 P_ej y).set 2 (.s .nls)) (fun y=>((st0 Tryz.f220 P_ej y).set 2 (.s .nls)).set 3 (.s (.d (.slice Y38) y.1))) (fun y=>y.1)
    (fun y=>by kernel_rfl) (fun y=>by kernel_rfl) (fun y=>by kernel_rfl) (fun y=>Nat.le_of_ble_eq_true (by kernel_rfl)) (fun y=>by kernel_rfl) (by kernel_rfl) (by kernel_rfl) (by kernel_rfl) (fun y=>by kernel_rfl)
    (fun y h=>by obtain ⟨l,v⟩:=y; have h:l=[]:=h; subst h; show run _ _ _ _ _ _=F_ew ([],v); kernel_rfl) (fun y=>by kernel_rfl)
def F_ex (x:denP P_ej):FO P_ej R_aj:=
 (F_ew (x.1,())).bind fun r1=>
 some ((r1.1.1,()),())
abbrev C_ex:Con:=⟨P_ej,R_aj,F_ex,false⟩
theorem s_ex:Bc 175 C_ex:=fnE (Qa s_ew Qc) Tryz.f175
abbrev P_ey:List PK:=[.val Y66,.val YI,.val Y30]
abbrev R_ey:List VK:=[.g [.own 2 YI,.dat YI,.own 2 YI,.dat .bool,.dat .bool,.dat .bool,.dat YI,.own 2 YI,.own 2 YI,.own 88 Y38,.own 2 YI]]
def F_ey (x:denP P_ey):FO P_ey R_ey:=
 (F_dl (x.1.2.2.1,())).bind fun r1=>
 let v2:=(IntKind.i64.wrap (x.2.1*(8:Int)))
 if 0≤v2∧v2≤((r1.1.1.length:Nat):Int)∧((r1.1.1.length:Nat):Int)≤((r1.1.1.length:Nat):Int) then
 if 0< ((((r1.1.1.length:Nat):Int)).toNat-(v2).toNat)∧0< x.2.2.1.length then
 let v3:=(splc r1.1.1 x.2.2.1 (0+(v2).toNat) ((((r1.1.1.length:Nat):Int)).toNat-(v2).toNat))
 let v4:=((min ((((r1.1.1.length:Nat):Int)).toNat-(v2).toNat) x.2.2.1.length:Nat):Int)
 (F_dn (x.1.1,())).bind fun r5=>
 (F_ex (x.1.2.1,())).bind fun r6=>
 some (((r5.1.1.1,(r5.1.1.2.1,(r5.1.1.2.2.1,(r5.1.1.2.2.2.1,(r5.1.1.2.2.2.2.1,(r5.1.1.2.2.2.2.2.1,(r5.1.1.2.2.2.2.2.2.1,(r5.1.1.2.2.2.2.2.2.2.1,(r5.1.1.2.2.2.2.2.2.2.2.1,(r6.1.1,(v3,()))))))))))),()),())
 else none
 else none
abbrev C_ey:Con:=⟨P_ey,R_ey,F_ey,false⟩
theorem s_ey:Bc 123 C_ey:=fnE (Qa s_dn (Qa s_dl (Qa s_ex Qc))) Tryz.f123
def F_ez (x:denP P_an):FO P_an R_c:=
 ((x.1.2.2.1)[((9:Int)).toNat]?).bind fun y1=>
 if (y1 !=(0:Int))=true then
 ((x.1.2.2.1)[((9:Int)).toNat]?).bind fun y2=>
 if (leI y2 x.1.2.2.2.2.2.2.1) then
 let v3:=(ior .i64 (0:Int) (1:Int))
 if x.1.2.2.2.2.2.1 then
 let v4:=(ior .i64 v3 (2:Int))
 let v5:=((x.1.2.2.2.2.2.2.2.1.length:Nat):Int)
 if (ltI (0:Int) v5) then
 let v6:=(ior .i64 v4 (4:Int))
 some ((v6,()),())
 else
 some ((v4,()),())
 else
 let v7:=((x.1.2.2.2.2.2.2.2.1.length:Nat):Int)
 if (ltI (0:Int) v7) then
 let v8:=(ior .i64 v3 (4:Int))
 some ((v8,()),())
 else
 some ((v3,()),())
 else
 if x.1.2.2.2.2.2.1 then
 let v9:=(ior .i64 (0:Int) (2:Int))
 let v10:=((x.1.2.2.2.2.2.2.2.1.length:Nat):Int)
 if (ltI (0:Int) v10) then
 let v11:=(ior .i64 v9 (4:Int))
 some ((v11,()),())
 else
 some ((v9,()),())
 else
 let v12:=((x.1.2.2.2.2.2.2.2.1.length:Nat):Int)
 if (ltI (0:Int) v12) then
 let v13:=(ior .i64 (0:Int) (4:Int))
 some ((v13,()),())
 else
 some (((0:Int),()),())
 else
 if x.1.2.2.2.2.2.1 then
 let v14:=(ior .i64 (0:Int) (2:Int))
 let v15:=((x.1.2.2.2.2.2.2.2.1.length:Nat):Int)
 if (ltI (0:Int) v15) then
 let v16:=(ior .i64 v14 (4:Int))
 some ((v16,()),())
 else
 some ((v14,()),())
 else
 let v17:=((x.1.2.2.2.2.2.2.2.1.length:Nat):Int)
 if (ltI (0:Int) v17) then
 let v18:=(ior .i64 (0:Int) (4:Int))
 some ((v18,()),())
 else
 some (((0:Int),()),())
abbrev C_ez:Con:=⟨P_an,R_c,F_ez,false⟩
theorem s_ez:Bc 186 C_ez:=fnE g_a Tryz.f186
abbrev P_fa:List PK:=[.val (.int .u64)]
def tzF (n:Int):Option Int:=if n=1∨n=3∨n=5∨n=7 then some 0 else if n=2∨n=6 then some 1 else if n=4 then some 2 else none
def F_fa (x:denP P_fa):FO P_fa R_c:=match tzF x.1 with | some z=>some ((z,()),()) | none=>none
abbrev C_fa:Con:=⟨P_fa,R_c,F_fa,false⟩
theorem w_fa (n:Int) (k:Nat) (z:Int) (hn:(n==0)=false) (w:World) (hr:0≤IntKind.u64.wrap (bits BinOp.and IntKind.u64 n (IntKind.u64.wrap (-n))*285870213051353865) / 288230376151711744∧IntKind.u64.wrap (bits BinOp.and IntKind.u64 n (IntKind.u64.wrap (-n))*285870213051353865) / 288230376151711744< 64)
    (he:(IntKind.u64.wrap (bits BinOp.and IntKind.u64 n (IntKind.u64.wrap (-n))*285870213051353865) / 288230376151711744).toNat=k)
    (h:w.cell? { block:=0,off:=k }=some (.int .u8 z)) (hz:IntKind.i64.wrap z=z):Calls Tryz.prog 226 #[.int .u64 n] w fun e' w'=>e'= .returned (.int .i64 z)∧w'=w:=by
  go_enter Tryz.func226,Tryz.ntmps226
  go_wp2
  all_goals first | (go_ret; exact ⟨rfl,rfl⟩) | exact absurd hr ‹¬_› | simp_all
theorem v_fa {n z:Int} (h:tzF n=some z) {M:Nat→Nat→Prop} {w:World} (hl:Laid M w):Calls Tryz.prog 226 #[.int .u64 n] w fun e' w'=>e'= .returned (.int .i64 z)∧w'=w:=by
  have hg: ∀i v,(0,i,v)∈GL→w.cell? { block:=0,off:=i }=some v:=by
    intro i v hm
    obtain ⟨⟨c,e,fz,h1,h2⟩,_⟩:=hl _ hm
    simp only at h1 h2
    simp [World.cell?,h1,h2]
  have g0:=hg 0 (.int .u8 0) (by simp [GL])
  have g1:=hg 1 (.int .u8 1) (by simp [GL])
  have g3:=hg 3 (.int .u8 2) (by simp [GL])
  have key:((n=1∨n=3∨n=5∨n=7)∧z=0)∨((n=2∨n=6)∧z=1)∨(n=4∧z=2):=by
    unfold tzF at h
    split at h
    · exact .inl ⟨‹_›,(Osj h).symm⟩
    · split at h
      · exact .inr (.inl ⟨‹_›,(Osj h).symm⟩)
      · split at h
        · exact .inr (.inr ⟨‹_›,(Osj h).symm⟩)
        · cases h
  clear h
  rcases key with ⟨h | h | h | h,rfl⟩ | ⟨h | h,rfl⟩ | ⟨h,rfl⟩ <;> subst h
  all_goals first
    | exact w_fa _ 0 _ (by decide) w (by decide+kernel) (by decide+kernel) g0 (by decide+kernel)
    | exact w_fa _ 1 _ (by decide) w (by decide+kernel) (by decide+kernel) g1 (by decide+kernel)
    | exact w_fa _ 3 _ (by decide) w (by decide+kernel) (by decide+kernel) g3 (by decide+kernel)
theorem u_fa:Qfx Tryz.prog 226 C_fa:=by
  intro x y hx w args S Q B M F hp ha _
  obtain ⟨v,vs',rfl,⟨cs,h1,h2⟩,rfl,rfl⟩:=ha
  have e1:v= .int .u64 x.1:=by
    have h1:cs=[v]:=h1
    subst h1
    simpa [Rp] using h2
  subst e1
  have hx:F_fa x=some y:=hx
  unfold F_fa at hx
  split at hx
  · rename_i z hz
    obtain rfl:=Osj hx
    refine (v_fa hz hp.laid).mono fun r w' h=>?_
    obtain ⟨rfl,rfl⟩:=h
    refine ⟨_,rfl,Kept.refl M w',[.int .i64 z],[],[],rfl,⟨_,[],[],[],rfl,rfl,⟨⟨[.int .i64 z],rfl,rfl⟩,rfl⟩,rfl,rfl⟩,⟨_,[],rfl,rfl,rfl⟩,List.nodup_nil,fun b hb=>by cases hb⟩
  · cases hx
theorem s_fa:Bc 226 C_fa:=(u_fa).ok (QfF Tryz.func226 (by decide+kernel) (by kernel_rfl))
def F_fb (x:denP P_an):FO P_an R_c:=
 (F_ez (x.1,())).bind fun r1=>
 ((x.1.2.2.1)[((7:Int)).toNat]?).bind fun y2=>
 let v3:=(iand .i64 r1.1.1 y2)
 ((x.1.2.2.1)[((0:Int)).toNat]?).bind fun y4=>
 let v5:=((y4).tmod (2:Int))
 if (v5==(0:Int))=false then
 if (v3==(0:Int)) then
 some (((-1:Int),()),())
 else
 let v6:=(IntKind.u64.wrap v3)
 (F_fa (v6,())).bind fun r7=>
 some ((r7.1.1,()),())
 else
 some (((-1:Int),()),())
abbrev C_fb:Con:=⟨P_an,R_c,F_fb,false⟩
theorem s_fb:Bc 184 C_fb:=fnE (Qa s_ez (Qa s_fa Qc)) Tryz.f184
abbrev P_fc:List PK:=[.box [.own 2 YI,.dat YI,.own 2 YI,.dat .bool,.dat .bool,.dat .bool,.dat YI,.own 2 YI,.own 2 YI] [.own 2 YI,.dat YI,.own 2 YI,.dat .bool,.dat .bool,.dat .bool,.dat YI,.own 2 YI,.own 2 YI],.val YI,.val YI]
def F_fc (x:denP P_fc):FO P_fc R_ap:=
 if 0≤(2:Int)∧(2:Int)< ((x.1.2.2.1.length:Nat):Int) then
 ((x.1.2.2.1)[((2:Int)).toNat]?).bind fun y1=>
 let v2:=(x.1.2.2.1.set ((2:Int)).toNat x.1.2.1)
 if 0≤(3:Int)∧(3:Int)< ((v2.length:Nat):Int) then
 ((v2)[((3:Int)).toNat]?).bind fun y3=>
 let v4:=(v2.set ((3:Int)).toNat x.2.1)
 if 0≤(4:Int)∧(4:Int)< ((v4.length:Nat):Int) then
 ((v4)[((4:Int)).toNat]?).bind fun y5=>
 let v6:=(v4.set ((4:Int)).toNat x.2.2.1)
 if 0≤(0:Int)∧(0:Int)< ((v6.length:Nat):Int) then
 ((v6)[((0:Int)).toNat]?).bind fun y7=>
 let v8:=((y7).tmod (2:Int))
 let v9:=(IntKind.i64.wrap (v8*(2:Int)))
 if 0≤(0:Int)∧(0:Int)< ((v6.length:Nat):Int) then
 ((v6)[((0:Int)).toNat]?).bind fun y10=>
 let v11:=(v6.set ((0:Int)).toNat v9)
 if 0≤(1:Int)∧(1:Int)< ((v11.length:Nat):Int) then
 ((v11)[((1:Int)).toNat]?).bind fun y12=>
 some ((),((x.1.1,(y12,(v11,(x.1.2.2.2.1,(false,(x.1.2.2.2.2.2.1,(x.1.2.2.2.2.2.2.1,(x.1.2.2.2.2.2.2.2.1,(x.1.2.2.2.2.2.2.2.2.1,()))))))))),()))
 else none
 else none
 else none
 else none
 else none
 else none
abbrev C_fc:Con:=⟨P_fc,R_ap,F_fc,false⟩
theorem s_fc:Bc 227 C_fc:=fnE g_a Tryz.f227
abbrev P_fd:List PK:=[.box [.own 2 YI,.dat YI,.own 2 YI,.dat .bool,.dat .bool,.dat .bool,.dat YI,.own 2 YI,.own 2 YI,.dat Y26,.own 2 YI,.dat YI,.dat YI] [.own 2 YI,.dat YI,.own 2 YI,.dat .bool,.dat .bool,.dat .bool,.dat YI,.own 2 YI,.own 2 YI,.dat Y26,.own 2 YI,.dat YI,.dat YI],.val YI,.val YI]
def F_fd (x:denP P_fd):FO P_fd R_ap:=
 (F_fc ((x.1.1,(x.1.2.1,(x.1.2.2.1,(x.1.2.2.2.1,(x.1.2.2.2.2.1,(x.1.2.2.2.2.2.1,(x.1.2.2.2.2.2.2.1,(x.1.2.2.2.2.2.2.2.1,(x.1.2.2.2.2.2.2.2.2.1,()))))))))),x.2.1,x.2.2.1,())).bind fun r1=>
 some ((),((r1.2.1.1,(r1.2.1.2.1,(r1.2.1.2.2.1,(r1.2.1.2.2.2.1,(r1.2.1.2.2.2.2.1,(r1.2.1.2.2.2.2.2.1,(r1.2.1.2.2.2.2.2.2.1,(r1.2.1.2.2.2.2.2.2.2.1,(r1.2.1.2.2.2.2.2.2.2.2.1,(x.1.2.2.2.2.2.2.2.2.2.1,(x.1.2.2.2.2.2.2.2.2.2.2.1,(x.2.1,(x.1.2.2.2.2.2.2.2.2.2.2.2.2.1,()))))))))))))),()))
abbrev C_fd:Con:=⟨P_fd,R_ap,F_fd,false⟩
theorem s_fd:Bc 185 C_fd:=fnE (Qa s_fc Qc) Tryz.f185
end Go.Proofs.YtkkljegcnnfanaaGreatDoor
