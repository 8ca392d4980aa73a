/- The functions of the laws, each as a plain function of data (F), and that the program's text does what F says. Printed by a program (wip/tools/gen.py). -/
import Derived.Test.YtkkljegcnnfanaaGreatDoorGa2
set_option linter.unusedVariables false
set_option linter.unusedSimpArgs false
namespace Go.Proofs.YtkkljegcnnfanaaGreatDoor
open Go Go.RowKit S Go.Proofs
set_option maxRecDepth 100000
def F_cx_1 (x:denP P_n):FO P_n R_a:=
 (F_cw (x.1,())).bind fun r1=>
 some (((!r1.1.1),()),())
abbrev C_cx_1:Con:=⟨P_n,R_a,F_cx_1,false⟩
abbrev G_cx_1:Env:=[(113,C_cw)]
theorem g_cx_1:Qf Tryz.prog G_cx_1:=(Qa s_cw Qc)
theorem s_cx_1:Qb Tryz.prog 166 C_cx_1:=fnC (L:=[]) hT g_cx_1 Tryz.f166 okP fun _=>by kernel_rfl
abbrev P_cy_1:List PK:=[.val Y30,.fn 166 []]
abbrev i_cz_2:Shp:={ slots:=[(0,.s (.dat Y30)),(1,.s (.fn 166 [])),(7,.s (.dat YI)),(8,.s (.dat YI))],boxes:=[],rows:=[] }
def l_cz_2 (rec:i_cz_2.den→Option (denO o_j_2)) (u:i_cz_2.den):Option (denO o_j_2):=
 if (ltI u.1.2.2.2.1 u.1.2.2.1) then
 if 0≤u.1.2.2.2.1 then
 ((u.1.1)[(u.1.2.2.2.1).toNat]?).bind fun y4=>
 (F_cx_1 (y4,())).bind fun r5=>
 if r5.1.1 then
 some (.inr (.inl ((u.1.2.2.2.1,()),((),()))))
 else
 let v6:=(IntKind.i64.wrap (u.1.2.2.2.1+(1:Int)))
 rec ((u.1.1,((),(u.1.2.2.1,(v6,())))),((),()))
 else none
 else
 some (.inl ((),((),())))
def L_cz_2 (x:i_cz_2.den):Option (denO o_j_2):=Qd l_cz_2 lots x
def F_cy_1 (x:denP P_cy_1):FO P_cy_1 R_c:=
 let v1:=((x.1.length:Nat):Int)
 (L_cz_2 ((x.1,((),(v1,((0:Int),())))),((),()))).bind fun z7=>
 match z7 with
 | .inl x8=>
  some (((-1:Int),()),())
 | .inr z7_=>
  match z7_ with
  | .inl x9=>
   some ((x9.1.1,()),())
  | .inr z7__=>
   none
abbrev C_cy_1:Con:=⟨P_cy_1,R_c,F_cy_1,false⟩
abbrev G_cy_1:Env:=[(166,C_cx_1)]
theorem g_cy_1:Qf Tryz.prog G_cy_1:=(Qa s_cx_1 Qc)
abbrev c_cz_2:Cut:=⟨i_cz_2,o_j_2,fun x=>Qd l_cz_2 lots x⟩
theorem k_cz_2:Qt Tryz.prog 19 (.loop (nav Tryz.f215 [1,0,1,0,0])) c_cz_2:=
  Qg (L:=[]) hT g_cy_1 (fun _ _=>by kernel_rfl) okP _
theorem r_cy_1 (x):QF T G_cy_1 [(2,c_cz_2)] Tryz.f215 C_cy_1.ps C_cy_1.rs x=C_cy_1.F x:=by kernel_rfl
theorem s_cy_1:Qb Tryz.prog 215 C_cy_1:=fnC (L:=[(2,c_cz_2)]) hT g_cy_1 Tryz.f215 (okS okP (okS (okS okP (okB (okU k_cz_2))) okP)) r_cy_1
def F_da_1 (x:denP P_cy_1):FO P_cy_1 R_a:=
 (F_cy_1 (x.1,(),())).bind fun r1=>
 some (((leI (0:Int) r1.1.1),()),())
abbrev C_da_1:Con:=⟨P_cy_1,R_a,F_da_1,false⟩
abbrev G_da_1:Env:=[(215,C_cy_1)]
theorem g_da_1:Qf Tryz.prog G_da_1:=(Qa s_cy_1 Qc)
theorem s_da_1:Qb Tryz.prog 165 C_da_1:=fnC (L:=[]) hT g_da_1 Tryz.f165 okP fun _=>by kernel_rfl
def F_cx (x:denP P_ae):FO P_ae R_a:=
 (F_da_1 (x.1,(),())).bind fun r1=>
 some (((!r1.1.1),()),())
abbrev C_cx:Con:=⟨P_ae,R_a,F_cx,false⟩
abbrev G_cx:Env:=[(165,C_da_1)]
theorem g_cx:Qf Tryz.prog G_cx:=(Qa s_da_1 Qc)
theorem s_cx:Qb Tryz.prog 107 C_cx:=fnC (L:=[]) hT g_cx Tryz.f107 okP fun _=>by kernel_rfl
def F_db (x:denP P_ae):FO P_ae R_c:=
 let v1:=((x.1.length:Nat):Int)
 if (v1==(0:Int))=false then
 let v2:=((x.1.length:Nat):Int)
 if (ltI (192:Int) v2)=false then
 let v3:=((x.1.length:Nat):Int)
 let v4:=((v3).tmod (8:Int))
 if (v4 !=(0:Int)) then
 some (((1:Int),()),())
 else
 (F_cx (x.1,())).bind fun r5=>
 if (!r5.1.1) then
 some (((3:Int),()),())
 else
 some (((0:Int),()),())
 else
 some (((1:Int),()),())
 else
 some (((1:Int),()),())
abbrev C_db:Con:=⟨P_ae,R_c,F_db,false⟩
abbrev G_db:Env:=[(107,C_cx)]
theorem g_db:Qf Tryz.prog G_db:=(Qa s_cx Qc)
theorem s_db:Qb Tryz.prog 41 C_db:=fnC (L:=[]) hT g_db Tryz.f41 okP fun _=>by kernel_rfl
def F_dc (x:denP P_ae):FO P_ae R_a:=
 (F_db (x.1,())).bind fun r1=>
 if (r1.1.1==(0:Int))=true then
 let v2:=((x.1.length:Nat):Int)
 some (((v2==(192:Int)),()),())
 else
 some ((false,()),())
abbrev C_dc:Con:=⟨P_ae,R_a,F_dc,false⟩
abbrev G_dc:Env:=[(41,C_db)]
theorem g_dc:Qf Tryz.prog G_dc:=(Qa s_db Qc)
theorem s_dc:Qb Tryz.prog 48 C_dc:=fnC (L:=[]) hT g_dc Tryz.f48 okP fun _=>by kernel_rfl
def F_dd (x:denP P_al):FO P_al R_c:=
 let v1:=((x.1.1.length:Nat):Int)
 if (v1 !=(16:Int))=false then
 let v2:=((x.1.2.2.1.length:Nat):Int)
 if (v2 !=(11:Int))=false then
 ((x.1.1)[((0:Int)).toNat]?).bind fun y3=>
 if (y3 !=(0:Int)) then
 some (((1:Int),()),())
 else
 (F_cx (x.1.1,())).bind fun r4=>
 if (!r4.1.1)=false then
 (F_cw (x.1.2.1,())).bind fun r5=>
 if (!r5.1.1)=false then
 (F_cx (x.1.2.2.1,())).bind fun r6=>
 if (!r6.1.1)=false then
 (F_cx (x.1.2.2.2.2.2.2.2.1,())).bind fun r7=>
 if (!r7.1.1)=false then
 (F_cx (x.1.2.2.2.2.2.2.2.2.1,())).bind fun r8=>
 if (!r8.1.1) then
 some (((3:Int),()),())
 else
 let v9:=((x.1.2.2.2.2.2.2.2.1.length:Nat):Int)
 if (ltI (40:Int) v9)=false then
 let v10:=((x.1.2.2.2.2.2.2.2.2.1.length:Nat):Int)
 if (ltI (40:Int) v10) then
 some (((2:Int),()),())
 else
 (F_cd (x.1.2.2.2.2.2.2.1,(0:Int),(1000000000:Int),())).bind fun r11=>
 if (!r11.1.1) then
 some (((3:Int),()),())
 else
 ((x.1.2.2.1)[((0:Int)).toNat]?).bind fun y12=>
 if (ltI (3:Int) y12)=false then
 ((x.1.2.2.1)[((7:Int)).toNat]?).bind fun y13=>
 if (ltI (7:Int) y13)=false then
 ((x.1.2.2.1)[((10:Int)).toNat]?).bind fun y14=>
 if (ltI (8:Int) y14)=false then
 ((x.1.2.2.1)[((6:Int)).toNat]?).bind fun y15=>
 if (y15 !=(0:Int))=false then
 ((x.1.2.2.1)[((8:Int)).toNat]?).bind fun y16=>
 if (y16 !=(0:Int)) then
 some (((1:Int),()),())
 else
 some (((0:Int),()),())
 else
 some (((1:Int),()),())
 else
 some (((1:Int),()),())
 else
 some (((1:Int),()),())
 else
 some (((1:Int),()),())
 else
 some (((2:Int),()),())
 else
 some (((3:Int),()),())
 else
 some (((3:Int),()),())
 else
 some (((3:Int),()),())
 else
 some (((3:Int),()),())
 else
 some (((1:Int),()),())
 else
 some (((1:Int),()),())
abbrev C_dd:Con:=⟨P_al,R_c,F_dd,false⟩
abbrev G_dd:Env:=[(50,C_cd),(107,C_cx),(113,C_cw)]
theorem g_dd:Qf Tryz.prog G_dd:=(Qa s_cd (Qa s_cx (Qa s_cw Qc)))
theorem s_dd:Qb Tryz.prog 49 C_dd:=fnC (L:=[]) hT g_dd Tryz.f49 okP fun _=>by kernel_rfl
abbrev i_de_3:Shp:={ slots:=[(1,.s (.dat YI)),(5,.s (.dat YI)),(11,.s (.dat Y26)),(12,.s (.dat YI)),(13,.s (.dat YI))],boxes:=[],rows:=[] }
abbrev o_de_3:List (Ex×Shp):=[(.exit 0,{ slots:=[(5,.s (.dat YI))],boxes:=[],rows:=[] })]
def l_de_3 (rec:i_de_3.den→Option (denO o_de_3)) (u:i_de_3.den):Option (denO o_de_3):=
 if (ltI u.1.2.2.2.2.1 u.1.2.2.2.1) then
 if 0≤u.1.2.2.2.2.1 then
 ((u.1.2.2.1)[(u.1.2.2.2.2.1).toNat]?).bind fun y3=>
 if (ltI u.1.1 (0:Int))=false then
 if (y3.1==u.1.1) then
 let v4:=(IntKind.i64.wrap (u.1.2.1+y3.2.1))
 let v5:=(IntKind.i64.wrap (u.1.2.2.2.2.1+(1:Int)))
 rec ((u.1.1,(v4,(u.1.2.2.1,(u.1.2.2.2.1,(v5,()))))),((),()))
 else
 let v6:=(IntKind.i64.wrap (u.1.2.2.2.2.1+(1:Int)))
 rec ((u.1.1,(u.1.2.1,(u.1.2.2.1,(u.1.2.2.2.1,(v6,()))))),((),()))
 else
 let v7:=(IntKind.i64.wrap (u.1.2.1+y3.2.1))
 let v8:=(IntKind.i64.wrap (u.1.2.2.2.2.1+(1:Int)))
 rec ((u.1.1,(v7,(u.1.2.2.1,(u.1.2.2.2.1,(v8,()))))),((),()))
 else none
 else
 some (.inl ((u.1.2.1,()),((),())))
def L_de_3 (x:i_de_3.den):Option (denO o_de_3):=Qd l_de_3 lots x
def F_de (x:denP P_h):FO P_h R_c:=
 let v1:=((x.1.2.2.2.1.length:Nat):Int)
 (L_de_3 ((x.2.1,((0:Int),(x.1.2.2.2.1,(v1,((0:Int),()))))),((),()))).bind fun z9=>
 match z9 with
 | .inl x10=>
  some ((x10.1.1,()),())
 | .inr z9_=>
  none
abbrev C_de:Con:=⟨P_h,R_c,F_de,false⟩
abbrev c_de_3:Cut:=⟨i_de_3,o_de_3,fun x=>Qd l_de_3 lots x⟩
theorem k_de_3:Qt Tryz.prog 31 (.loop (nav Tryz.f80 [1,1,0,1,0,0])) c_de_3:=
  Qg (L:=[]) hT g_a (fun _ _=>by kernel_rfl) okP _
theorem r_de (x):QF T G_a [(3,c_de_3)] Tryz.f80 C_de.ps C_de.rs x=C_de.F x:=by kernel_rfl
theorem s_de:Qb Tryz.prog 80 C_de:=fnC (L:=[(3,c_de_3)]) hT g_a Tryz.f80 (okS okP (okS okP (okS (okS okP (okB (okU k_de_3))) okP))) r_de
abbrev i_df_3:Shp:={ slots:=[(0,.s (.pd Y28)),(1,.s (.dat YI)),(6,.s (.dat YI))],boxes:=[],rows:=[] }
abbrev o_df_3:List (Ex×Shp):=[(.exit 0,{ slots:=[(0,.s (.pd Y28)),(1,.s (.dat YI)),(6,.s (.dat YI))],boxes:=[],rows:=[] })]
def l_df_3 (rec:i_df_3.den→Option (denO o_df_3)) (u:i_df_3.den):Option (denO o_df_3):=
 if 0≤u.1.2.2.1 then
 ((u.1.1.2.2.2.1)[(u.1.2.2.1).toNat]?).bind fun y5=>
 if (leI y5.2.1 u.1.2.1) then
 if 0≤u.1.2.2.1 then
 ((u.1.1.2.2.2.1)[(u.1.2.2.1).toNat]?).bind fun y6=>
 let v7:=(IntKind.i64.wrap (u.1.2.1-y6.2.1))
 let v8:=(IntKind.i64.wrap (u.1.2.2.1+(1:Int)))
 rec ((u.1.1,(v7,(v8,()))),((),()))
 else none
 else
 some (.inl ((u.1.1,(u.1.2.1,(u.1.2.2.1,()))),((),())))
 else none
def L_df_3 (x:i_df_3.den):Option (denO o_df_3):=Qd l_df_3 lots x
def F_df (x:denP P_h):FO P_h R_aw:=
 (F_de (x.1,(-1:Int),())).bind fun r1=>
 if r1.1.1=0 then none else
 let v2:=((x.2.1).tmod r1.1.1)
 (L_df_3 ((x.1,(v2,((0:Int),()))),((),()))).bind fun z9=>
 match z9 with
 | .inl x10=>
  if 0≤x10.1.2.2.1 then
  ((x10.1.1.2.2.2.1)[(x10.1.2.2.1).toNat]?).bind fun y11=>
  let v12:=(IntKind.i64.wrap (y11.2.1-x10.1.2.1))
  some ((x10.1.2.2.1,v12,()),())
  else none
 | .inr z9_=>
  none
abbrev C_df:Con:=⟨P_h,R_aw,F_df,false⟩
abbrev G_df:Env:=[(80,C_de)]
theorem g_df:Qf Tryz.prog G_df:=(Qa s_de Qc)
abbrev c_df_3:Cut:=⟨i_df_3,o_df_3,fun x=>Qd l_df_3 lots x⟩
theorem k_df_3:Qt Tryz.prog 44 (.loop (nav Tryz.f51 [1,1,1,0,0,0])) c_df_3:=
  Qg (L:=[]) hT g_df (fun _ _=>by kernel_rfl) okP _
theorem r_df (x):QF T G_df [(3,c_df_3)] Tryz.f51 C_df.ps C_df.rs x=C_df.F x:=by kernel_rfl
theorem s_df:Qb Tryz.prog 51 C_df:=fnC (L:=[(3,c_df_3)]) hT g_df Tryz.f51 (okS okP (okS okP (okS okP (okS (okB (okU k_df_3)) okP)))) r_df
abbrev P_dg:List PK:=[.val Y32]
abbrev i_dg_7:Shp:={ slots:=[(1,.s (.ptr 1 0)),(30,.s (.dat Y31)),(31,.s (.dat YI)),(32,.s (.dat YI))],boxes:=[(1,[.dat Y24,.dat Y25,.dat Y26,.dat Y26,.dat Y30,.dat Y31,.dat YI,.dat YI,.dat YI])],rows:=[] }
abbrev o_dg_7:List (Ex×Shp):=[(.exit 0,{ slots:=[(1,.s (.ptr 1 0))],boxes:=[(1,[.dat Y24,.dat Y25,.dat Y26,.dat Y26,.dat Y30,.dat Y31,.dat YI,.dat YI,.dat YI])],rows:=[] }),(.ret,{ slots:=[(2,.s (.dat YI))],boxes:=[],rows:=[] })]
def l_dg_7 (rec:i_dg_7.den→Option (denO o_dg_7)) (u:i_dg_7.den):Option (denO o_dg_7):=
 if (ltI u.1.2.2.2.1 u.1.2.2.1) then
 if 0≤u.1.2.2.2.1 then
 ((u.1.2.1)[(u.1.2.2.2.1).toNat]?).bind fun y8=>
 (F_dd (y8,())).bind fun r9=>
 if (r9.1.1 !=(0:Int)) then
 some (.inr (.inl ((r9.1.1,()),((),()))))
 else
 let v10:=(IntKind.i64.wrap (u.1.2.2.2.1+(1:Int)))
 rec (((),(u.1.2.1,(u.1.2.2.1,(v10,())))),((u.2.1.1,()),()))
 else none
 else
 some (.inl (((),()),((u.2.1.1,()),())))
def L_dg_7 (x:i_dg_7.den):Option (denO o_dg_7):=Qd l_dg_7 lots x
def F_dg (x:denP P_dg):FO P_dg R_c:=
 (F_cv (x.1.1,())).bind fun r1=>
 if (r1.1.1 !=(0:Int)) then
 some ((r1.1.1,()),())
 else
 (F_dc (x.1.2.1,())).bind fun r2=>
 if (!r2.1.1)=false then
 let v3:=((x.1.2.2.1.length:Nat):Int)
 let v4:=((x.1.1.1.length:Nat):Int)
 if (v3 !=v4) then
 some (((1:Int),()),())
 else
 let v5:=((x.1.2.2.1.length:Nat):Int)
 (L_dg_7 (((),(x.1.2.2.1,(v5,((0:Int),())))),(((x.1.1.1,(x.1.1.2.1,(x.1.1.2.2.1,(x.1.1.2.2.2.1,(x.1.2.1,(x.1.2.2.1,(x.1.2.2.2.1,(x.1.2.2.2.2.1,(x.1.2.2.2.2.2.1,()))))))))),()),()))).bind fun z11=>
 match z11 with
 | .inl x12=>
  (F_cd (x12.2.1.1.2.2.2.2.2.2.2.2.1,(0:Int),(1000000:Int),())).bind fun r13=>
  if (!r13.1.1) then
  some (((3:Int),()),())
  else
  (F_df ((x12.2.1.1.1,(x12.2.1.1.2.1,(x12.2.1.1.2.2.1,(x12.2.1.1.2.2.2.1,())))),x12.2.1.1.2.2.2.2.2.2.2.2.1,())).bind fun r14=>
  if (x12.2.1.1.2.2.2.2.2.2.1 !=r14.1.1)=false then
  if (x12.2.1.1.2.2.2.2.2.2.2.1 !=r14.1.2.1) then
  some (((1:Int),()),())
  else
  some (((0:Int),()),())
  else
  some (((1:Int),()),())
 | .inr z11_=>
  match z11_ with
  | .inl x15=>
   some ((x15.1.1,()),())
  | .inr z11__=>
   none
 else
 some (((1:Int),()),())
abbrev C_dg:Con:=⟨P_dg,R_c,F_dg,false⟩
abbrev G_dg:Env:=[(47,C_cv),(48,C_dc),(49,C_dd),(50,C_cd),(51,C_df)]
theorem g_dg:Qf Tryz.prog G_dg:=(Qa s_cv (Qa s_dc (Qa s_dd (Qa s_cd (Qa s_df Qc)))))
abbrev c_dg_7:Cut:=⟨i_dg_7,o_dg_7,fun x=>Qd l_dg_7 lots x⟩
theorem k_dg_7:Qt Tryz.prog 63 (.loop (nav Tryz.f15 [1,1,1,0,1,0,0])) c_dg_7:=
  Qg (L:=[]) hT g_dg (fun _ _=>by kernel_rfl) okP _
theorem r_dg (x):QF T G_dg [(7,c_dg_7)] Tryz.f15 C_dg.ps C_dg.rs x=C_dg.F x:=by kernel_rfl
theorem s_dg:Qb Tryz.prog 15 C_dg:=fnC (L:=[(7,c_dg_7)]) hT g_dg Tryz.f15 (okS okP (okS okP (okS okP (okS (okS okP (okB (okU k_dg_7))) okP)))) r_dg
def F_dh (x:denP P_ae):FO P_ae R_u:=
 if (([]:List (den YI)).length+x.1.length)*8≤140737488355328 then some (([]++x.1,()),()) else none
abbrev C_dh:Con:=⟨P_ae,R_u,F_dh,false⟩
theorem s_dh:Qb Tryz.prog 87 C_dh:=
  Qdl hT (fn:=Tryz.f87) (cn:=C_dh) (c0:=nav Tryz.f87 [0]) (ca:=nav Tryz.f87 [1,0,1,0]) (cb:=nav Tryz.f87 [1,1]) (id:=1) (d:=4) (nm:=1032000) (o1:=Qfb Tryz.f87 [1,0,0] 0) (o2:=Qfb Tryz.f87 [1,0,0] 1)
    (t:=30) (t':=30) (x:= .tmp 3) (r:=⟨Y30,[],2,24,0⟩) (u:=YI) (by kernel_rfl) (by kernel_rfl) (by kernel_rfl) ⟨by kernel_rfl,by kernel_rfl⟩ (fun y=>by kernel_rfl) (by kernel_rfl) (by kernel_rfl) (by kernel_rfl) (by kernel_rfl) (by kernel_rfl) rfl
    (fun y=>(st0 Tryz.f87 P_ae y).set 2 (.s .nls)) (fun y=>((st0 Tryz.f87 P_ae y).set 2 (.s .nls)).set 3 (.s (.d (.slice YI) y.1))) (fun y=>y.1)
    (fun y=>by kernel_rfl) (fun y=>by kernel_rfl) (fun y=>by kernel_rfl) (fun y=>Nat.le_of_ble_eq_true (by kernel_rfl)) (fun y=>by kernel_rfl) (by kernel_rfl) (by kernel_rfl) (by kernel_rfl) (fun y=>by kernel_rfl)
    (fun y h=>by obtain ⟨l,v⟩:=y; have h:l=[]:=h; subst h; show run _ _ _ _ _ _=F_dh ([],v); kernel_rfl) (fun y=>by kernel_rfl)
def F_di (x:denP P_al):FO P_al R_al:=
 (F_dh (x.1.1,())).bind fun r1=>
 (F_dh (x.1.2.2.1,())).bind fun r2=>
 (F_dh (x.1.2.2.2.2.2.2.2.1,())).bind fun r3=>
 (F_dh (x.1.2.2.2.2.2.2.2.2.1,())).bind fun r4=>
 some (((r1.1.1,(x.1.2.1,(r2.1.1,(x.1.2.2.2.1,(x.1.2.2.2.2.1,(x.1.2.2.2.2.2.1,(x.1.2.2.2.2.2.2.1,(r3.1.1,(r4.1.1,()))))))))),()),())
abbrev C_di:Con:=⟨P_al,R_al,F_di,false⟩
abbrev G_di:Env:=[(87,C_dh)]
theorem g_di:Qf Tryz.prog G_di:=(Qa s_dh Qc)
theorem s_di:Qb Tryz.prog 63 C_di:=fnC (L:=[]) hT g_di Tryz.f63 okP fun _=>by kernel_rfl
abbrev P_dj:List PK:=[.val Y45,.val Y30]
def F_dj (x:denP P_dj):FO P_dj R_af:=
 (F_dd (x.1,())).bind fun r1=>
 if (r1.1.1 !=(0:Int)) then
 some (((r1.1.1,(([]:List (den YI)),((0:Int),(([]:List (den YI)),(false,(false,(false,((0:Int),(([]:List (den YI)),(([]:List (den YI)),())))))))))),()),())
 else
 (F_cx (x.2.1,())).bind fun r2=>
 if (!r2.1.1) then
 some ((((3:Int),(([]:List (den YI)),((0:Int),(([]:List (den YI)),(false,(false,(false,((0:Int),(([]:List (den YI)),(([]:List (den YI)),())))))))))),()),())
 else
 let v3:=((x.1.2.2.2.2.2.2.2.1.length:Nat):Int)
 let v4:=((x.2.1.length:Nat):Int)
 let v5:=(IntKind.i64.wrap (v3+v4))
 if (ltI (40:Int) v5) then
 some ((((2:Int),(([]:List (den YI)),((0:Int),(([]:List (den YI)),(false,(false,(false,((0:Int),(([]:List (den YI)),(([]:List (den YI)),())))))))))),()),())
 else
 (F_di (x.1,())).bind fun r6=>
 if (r6.1.1.2.2.2.2.2.2.2.1.length+x.2.1.length)*8≤140737488355328 then
 let v7:=(r6.1.1.2.2.2.2.2.2.2.1++x.2.1)
 some ((((0:Int),(r6.1.1.1,(r6.1.1.2.1,(r6.1.1.2.2.1,(r6.1.1.2.2.2.1,(r6.1.1.2.2.2.2.1,(r6.1.1.2.2.2.2.2.1,(r6.1.1.2.2.2.2.2.2.1,(v7,(r6.1.1.2.2.2.2.2.2.2.2.1,())))))))))),()),())
 else none
abbrev C_dj:Con:=⟨P_dj,R_af,F_dj,false⟩
abbrev G_dj:Env:=[(49,C_dd),(63,C_di),(107,C_cx)]
theorem g_dj:Qf Tryz.prog G_dj:=(Qa s_dd (Qa s_di (Qa s_cx Qc)))
theorem s_dj:Qb Tryz.prog 54 C_dj:=fnC (L:=[]) hT g_dj Tryz.f54 okP fun _=>by kernel_rfl
abbrev P_dk:List PK:=[.val Y24]
def F_dk (x:denP P_dk):FO P_dk R_v:=
 if (([]:List (den Y30)).length+x.1.length)*24≤140737488355328 then some (([]++x.1,()),()) else none
abbrev C_dk:Con:=⟨P_dk,R_v,F_dk,false⟩
theorem s_dk:Qb Tryz.prog 135 C_dk:=
  Qdl hT (fn:=Tryz.f135) (cn:=C_dk) (c0:=nav Tryz.f135 [0]) (ca:=nav Tryz.f135 [1,0,1,0]) (cb:=nav Tryz.f135 [1,1]) (id:=1) (d:=4) (nm:=1032000) (o1:=Qfb Tryz.f135 [1,0,0] 0) (o2:=Qfb Tryz.f135 [1,0,0] 1)
    (t:=24) (t':=24) (x:= .tmp 3) (r:=⟨Y24,[],30,24,3000030⟩) (u:=Y30) (by kernel_rfl) (by kernel_rfl) (by kernel_rfl) ⟨by kernel_rfl,by kernel_rfl⟩ (fun y=>by kernel_rfl) (by kernel_rfl) (by kernel_rfl) (by kernel_rfl) (by kernel_rfl) (by kernel_rfl) rfl
    (fun y=>(st0 Tryz.f135 P_dk y).set 2 (.s .nls)) (fun y=>((st0 Tryz.f135 P_dk y).set 2 (.s .nls)).set 3 (.s (.d (.slice Y30) y.1))) (fun y=>y.1)
    (fun y=>by kernel_rfl) (fun y=>by kernel_rfl) (fun y=>by kernel_rfl) (fun y=>Nat.le_of_ble_eq_true (by kernel_rfl)) (fun y=>by kernel_rfl) (by kernel_rfl) (by kernel_rfl) (by kernel_rfl) (fun y=>by kernel_rfl)
    (fun y h=>by obtain ⟨l,v⟩:=y; have h:l=[]:=h; subst h; show run _ _ _ _ _ _=F_dk ([],v); kernel_rfl) (fun y=>by kernel_rfl)
abbrev P_dl:List PK:=[.val Y25]
abbrev R_dl:List VK:=[.s (.own 123 Y122)]
def F_dl (x:denP P_dl):FO P_dl R_dl:=
 if (([]:List (den Y122)).length+x.1.length)*40≤140737488355328 then some (([]++x.1,()),()) else none
abbrev C_dl:Con:=⟨P_dl,R_dl,F_dl,false⟩
theorem s_dl:Qb Tryz.prog 136 C_dl:=
  Qdl hT (fn:=Tryz.f136) (cn:=C_dl) (c0:=nav Tryz.f136 [0]) (ca:=nav Tryz.f136 [1,0,1,0]) (cb:=nav Tryz.f136 [1,1]) (id:=1) (d:=4) (nm:=1032000) (o1:=Qfb Tryz.f136 [1,0,0] 0) (o2:=Qfb Tryz.f136 [1,0,0] 1)
    (t:=25) (t':=25) (x:= .tmp 3) (r:=⟨Y25,[],123,24,0⟩) (u:=Y122) (by kernel_rfl) (by kernel_rfl) (by kernel_rfl) ⟨by kernel_rfl,by kernel_rfl⟩ (fun y=>by kernel_rfl) (by kernel_rfl) (by kernel_rfl) (by kernel_rfl) (by kernel_rfl) (by kernel_rfl) rfl
    (fun y=>(st0 Tryz.f136 P_dl y).set 2 (.s .nls)) (fun y=>((st0 Tryz.f136 P_dl y).set 2 (.s .nls)).set 3 (.s (.d (.slice Y122) y.1))) (fun y=>y.1)
    (fun y=>by kernel_rfl) (fun y=>by kernel_rfl) (fun y=>by kernel_rfl) (fun y=>Nat.le_of_ble_eq_true (by kernel_rfl)) (fun y=>by kernel_rfl) (by kernel_rfl) (by kernel_rfl) (by kernel_rfl) (fun y=>by kernel_rfl)
    (fun y h=>by obtain ⟨l,v⟩:=y; have h:l=[]:=h; subst h; show run _ _ _ _ _ _=F_dl ([],v); kernel_rfl) (fun y=>by kernel_rfl)
abbrev P_dm:List PK:=[.val Y26]
abbrev R_dm:List VK:=[.s (.own 53 Y38)]
def F_dm (x:denP P_dm):FO P_dm R_dm:=
 if (([]:List (den Y38)).length+x.1.length)*16≤140737488355328 then some (([]++x.1,()),()) else none
abbrev C_dm:Con:=⟨P_dm,R_dm,F_dm,false⟩
theorem s_dm:Qb Tryz.prog 137 C_dm:=
  Qdl hT (fn:=Tryz.f137) (cn:=C_dm) (c0:=nav Tryz.f137 [0]) (ca:=nav Tryz.f137 [1,0,1,0]) (cb:=nav Tryz.f137 [1,1]) (id:=1) (d:=4) (nm:=1032000) (o1:=Qfb Tryz.f137 [1,0,0] 0) (o2:=Qfb Tryz.f137 [1,0,0] 1)
    (t:=26) (t':=26) (x:= .tmp 3) (r:=⟨Y26,[],53,24,0⟩) (u:=Y38) (by kernel_rfl) (by kernel_rfl) (by kernel_rfl) ⟨by kernel_rfl,by kernel_rfl⟩ (fun y=>by kernel_rfl) (by kernel_rfl) (by kernel_rfl) (by kernel_rfl) (by kernel_rfl) (by kernel_rfl) rfl
    (fun y=>(st0 Tryz.f137 P_dm y).set 2 (.s .nls)) (fun y=>((st0 Tryz.f137 P_dm y).set 2 (.s .nls)).set 3 (.s (.d (.slice Y38) y.1))) (fun y=>y.1)
    (fun y=>by kernel_rfl) (fun y=>by kernel_rfl) (fun y=>by kernel_rfl) (fun y=>Nat.le_of_ble_eq_true (by kernel_rfl)) (fun y=>by kernel_rfl) (by kernel_rfl) (by kernel_rfl) (by kernel_rfl) (fun y=>by kernel_rfl)
    (fun y h=>by obtain ⟨l,v⟩:=y; have h:l=[]:=h; subst h; show run _ _ _ _ _ _=F_dm ([],v); kernel_rfl) (fun y=>by kernel_rfl)
abbrev R_dn:List VK:=[.s (.own 39 Y38)]
def F_dn (x:denP P_dm):FO P_dm R_dn:=
 if (([]:List (den Y38)).length+x.1.length)*16≤140737488355328 then some (([]++x.1,()),()) else none
abbrev C_dn:Con:=⟨P_dm,R_dn,F_dn,false⟩
theorem s_dn:Qb Tryz.prog 138 C_dn:=
  Qdl hT (fn:=Tryz.f138) (cn:=C_dn) (c0:=nav Tryz.f138 [0]) (ca:=nav Tryz.f138 [1,0,1,0]) (cb:=nav Tryz.f138 [1,1]) (id:=1) (d:=4) (nm:=1032000) (o1:=Qfb Tryz.f138 [1,0,0] 0) (o2:=Qfb Tryz.f138 [1,0,0] 1)
    (t:=27) (t':=27) (x:= .tmp 3) (r:=⟨Y26,[],39,24,0⟩) (u:=Y38) (by kernel_rfl) (by kernel_rfl) (by kernel_rfl) ⟨by kernel_rfl,by kernel_rfl⟩ (fun y=>by kernel_rfl) (by kernel_rfl) (by kernel_rfl) (by kernel_rfl) (by kernel_rfl) (by kernel_rfl) rfl
    (fun y=>(st0 Tryz.f138 P_dm y).set 2 (.s .nls)) (fun y=>((st0 Tryz.f138 P_dm y).set 2 (.s .nls)).set 3 (.s (.d (.slice Y38) y.1))) (fun y=>y.1)
    (fun y=>by kernel_rfl) (fun y=>by kernel_rfl) (fun y=>by kernel_rfl) (fun y=>Nat.le_of_ble_eq_true (by kernel_rfl)) (fun y=>by kernel_rfl) (by kernel_rfl) (by kernel_rfl) (by kernel_rfl) (fun y=>by kernel_rfl)
    (fun y h=>by obtain ⟨l,v⟩:=y; have h:l=[]:=h; subst h; show run _ _ _ _ _ _=F_dn ([],v); kernel_rfl) (fun y=>by kernel_rfl)
abbrev i_do_3:Shp:={ slots:=[(1,.s (.ptr 1 0)),(2,.s (.ptr 2 0)),(10,.s (.dat YI)),(11,.s (.dat YI))],boxes:=[(1,[.own 30 Y30,.dat Y25,.dat Y26,.dat Y26]),(2,[.own 30 Y30,.own 123 Y122,.own 53 Y38,.own 39 Y38])],rows:=[] }
abbrev o_do_3:List (Ex×Shp):=[(.exit 0,{ slots:=[(1,.s (.ptr 1 0)),(2,.s (.ptr 2 0))],boxes:=[(1,[.own 30 Y30,.dat Y25,.dat Y26,.dat Y26]),(2,[.own 30 Y30,.own 123 Y122,.own 53 Y38,.own 39 Y38])],rows:=[] })]
def l_do_3 (rec:i_do_3.den→Option (denO o_do_3)) (u:i_do_3.den):Option (denO o_do_3):=
 if (ltI u.1.2.2.2.1 u.1.2.2.1) then
 if 0≤u.1.2.2.2.1∧u.1.2.2.2.1< ((u.2.1.1.1.length:Nat):Int) then
 ((u.2.1.1.1)[(u.1.2.2.2.1).toNat]?).bind fun y6=>
 (F_dh (y6,())).bind fun r7=>
 if 0≤u.1.2.2.2.1∧u.1.2.2.2.1< ((u.2.1.1.1.length:Nat):Int) then
 ((u.2.1.1.1)[(u.1.2.2.2.1).toNat]?).bind fun y8=>
 let v9:=(u.2.1.1.1.set (u.1.2.2.2.1).toNat r7.1.1)
 let v10:=(IntKind.i64.wrap (u.1.2.2.2.1+(1:Int)))
 rec (((),((),(u.1.2.2.1,(v10,())))),(((v9,(u.2.1.1.2.1,(u.2.1.1.2.2.1,(u.2.1.1.2.2.2.1,())))),(u.2.1.2.1,())),()))
 else none
 else none
 else
 some (.inl (((),((),())),((u.2.1.1,(u.2.1.2.1,())),())))
def L_do_3 (x:i_do_3.den):Option (denO o_do_3):=Qd l_do_3 lots x
def F_do (x:denP P_ac):FO P_ac R_ac:=
 (F_dk (x.1.1,())).bind fun r1=>
 let v2:=((r1.1.1.length:Nat):Int)
 (L_do_3 (((),((),(v2,((0:Int),())))),(((r1.1.1,(x.1.2.1,(x.1.2.2.1,(x.1.2.2.2.1,())))),((([]:List (den Y30)),(([]:List (den Y122)),(([]:List (den Y38)),(([]:List (den Y38)),())))),())),()))).bind fun z11=>
 match z11 with
 | .inl x12=>
  (F_dl (x12.2.1.1.2.1,())).bind fun r13=>
  (F_dm (x12.2.1.1.2.2.1,())).bind fun r14=>
  (F_dn (x12.2.1.1.2.2.2.1,())).bind fun r15=>
  some (((x12.2.1.1.1,(r13.1.1,(r14.1.1,(r15.1.1,())))),()),())
 | .inr z11_=>
  none
abbrev C_do:Con:=⟨P_ac,R_ac,F_do,false⟩
abbrev G_do:Env:=[(87,C_dh),(135,C_dk),(136,C_dl),(137,C_dm),(138,C_dn)]
theorem g_do:Qf Tryz.prog G_do:=(Qa s_dh (Qa s_dk (Qa s_dl (Qa s_dm (Qa s_dn Qc)))))
abbrev c_do_3:Cut:=⟨i_do_3,o_do_3,fun x=>Qd l_do_3 lots x⟩
theorem k_do_3:Qt Tryz.prog 38 (.loop (nav Tryz.f86 [1,1,0,1,0,0])) c_do_3:=
  Qg (L:=[]) hT g_do (fun _ _=>by kernel_rfl) okP _
theorem r_do (x):QF T G_do [(3,c_do_3)] Tryz.f86 C_do.ps C_do.rs x=C_do.F x:=by kernel_rfl
theorem s_do:Qb Tryz.prog 86 C_do:=fnC (L:=[(3,c_do_3)]) hT g_do Tryz.f86 (okS okP (okS okP (okS (okS okP (okB (okU k_do_3))) okP))) r_do
abbrev P_dp:List PK:=[.val Y31]
abbrev R_dp:List VK:=[.s (.own 46 Y45)]
def F_dp (x:denP P_dp):FO P_dp R_dp:=
 if (([]:List (den Y45)).length+x.1.length)*120≤140737488355328 then some (([]++x.1,()),()) else none
abbrev C_dp:Con:=⟨P_dp,R_dp,F_dp,false⟩
theorem s_dp:Qb Tryz.prog 88 C_dp:=
  Qdl hT (fn:=Tryz.f88) (cn:=C_dp) (c0:=nav Tryz.f88 [0]) (ca:=nav Tryz.f88 [1,0,1,0]) (cb:=nav Tryz.f88 [1,1]) (id:=1) (d:=4) (nm:=1032000) (o1:=Qfb Tryz.f88 [1,0,0] 0) (o2:=Qfb Tryz.f88 [1,0,0] 1)
    (t:=31) (t':=31) (x:= .tmp 3) (r:=⟨Y31,[],46,24,3000046⟩) (u:=Y45) (by kernel_rfl) (by kernel_rfl) (by kernel_rfl) ⟨by kernel_rfl,by kernel_rfl⟩ (fun y=>by kernel_rfl) (by kernel_rfl) (by kernel_rfl) (by kernel_rfl) (by kernel_rfl) (by kernel_rfl) rfl
    (fun y=>(st0 Tryz.f88 P_dp y).set 2 (.s .nls)) (fun y=>((st0 Tryz.f88 P_dp y).set 2 (.s .nls)).set 3 (.s (.d (.slice Y45) y.1))) (fun y=>y.1)
    (fun y=>by kernel_rfl) (fun y=>by kernel_rfl) (fun y=>by kernel_rfl) (fun y=>Nat.le_of_ble_eq_true (by kernel_rfl)) (fun y=>by kernel_rfl) (by kernel_rfl) (by kernel_rfl) (by kernel_rfl) (fun y=>by kernel_rfl)
    (fun y h=>by obtain ⟨l,v⟩:=y; have h:l=[]:=h; subst h; show run _ _ _ _ _ _=F_dp ([],v); kernel_rfl) (fun y=>by kernel_rfl)
abbrev i_dq_5:Shp:={ slots:=[(1,.s (.ptr 1 0)),(2,.s (.ptr 2 0)),(18,.s (.dat YI)),(19,.s (.dat YI))],boxes:=[(1,[.own 30 Y30,.own 123 Y122,.own 53 Y38,.own 39 Y38,.own 2 YI,.own 46 Y45,.dat YI,.dat YI,.dat YI]),(2,[.own 30 Y30,.own 123 Y122,.own 53 Y38,.own 39 Y38,.own 2 YI,.own 46 Y45,.dat YI,.dat YI,.dat YI])],rows:=[] }
abbrev o_dq_5:List (Ex×Shp):=[(.exit 0,{ slots:=[(1,.s (.ptr 1 0)),(2,.s (.ptr 2 0))],boxes:=[(1,[.own 30 Y30,.own 123 Y122,.own 53 Y38,.own 39 Y38,.own 2 YI,.own 46 Y45,.dat YI,.dat YI,.dat YI]),(2,[.own 30 Y30,.own 123 Y122,.own 53 Y38,.own 39 Y38,.own 2 YI,.own 46 Y45,.dat YI,.dat YI,.dat YI])],rows:=[] })]
def l_dq_5 (rec:i_dq_5.den→Option (denO o_dq_5)) (u:i_dq_5.den):Option (denO o_dq_5):=
 if (ltI u.1.2.2.2.1 u.1.2.2.1) then
 if 0≤u.1.2.2.2.1∧u.1.2.2.2.1< ((u.2.1.1.2.2.2.2.2.1.length:Nat):Int) then
 ((u.2.1.1.2.2.2.2.2.1)[(u.1.2.2.2.1).toNat]?).bind fun y8=>
 (F_di (y8,())).bind fun r9=>
 if 0≤u.1.2.2.2.1∧u.1.2.2.2.1< ((u.2.1.1.2.2.2.2.2.1.length:Nat):Int) then
 ((u.2.1.1.2.2.2.2.2.1)[(u.1.2.2.2.1).toNat]?).bind fun y10=>
 let v11:=(u.2.1.1.2.2.2.2.2.1.set (u.1.2.2.2.1).toNat r9.1.1)
 let v12:=(IntKind.i64.wrap (u.1.2.2.2.1+(1:Int)))
 rec (((),((),(u.1.2.2.1,(v12,())))),(((u.2.1.1.1,(u.2.1.1.2.1,(u.2.1.1.2.2.1,(u.2.1.1.2.2.2.1,(u.2.1.1.2.2.2.2.1,(v11,(u.2.1.1.2.2.2.2.2.2.1,(u.2.1.1.2.2.2.2.2.2.2.1,(u.2.1.1.2.2.2.2.2.2.2.2.1,()))))))))),(u.2.1.2.1,())),()))
 else none
 else none
 else
 some (.inl (((),((),())),((u.2.1.1,(u.2.1.2.1,())),())))
def L_dq_5 (x:i_dq_5.den):Option (denO o_dq_5):=Qd l_dq_5 lots x
def F_dq (x:denP P_dg):FO P_dg R_ah:=
 (F_do (x.1.1,())).bind fun r1=>
 (F_dh (x.1.2.1,())).bind fun r2=>
 (F_dp (x.1.2.2.1,())).bind fun r3=>
 let v4:=((r3.1.1.length:Nat):Int)
 (L_dq_5 (((),((),(v4,((0:Int),())))),(((r1.1.1.1,(r1.1.1.2.1,(r1.1.1.2.2.1,(r1.1.1.2.2.2.1,(r2.1.1,(r3.1.1,(x.1.2.2.2.1,(x.1.2.2.2.2.1,(x.1.2.2.2.2.2.1,()))))))))),((([]:List (den Y30)),(([]:List (den Y122)),(([]:List (den Y38)),(([]:List (den Y38)),(([]:List (den YI)),(([]:List (den Y45)),((0:Int),((0:Int),((0:Int),()))))))))),())),()))).bind fun z13=>
 match z13 with
 | .inl x14=>
  some ((x14.2.1.1,()),())
 | .inr z13_=>
  none
abbrev C_dq:Con:=⟨P_dg,R_ah,F_dq,false⟩
abbrev G_dq:Env:=[(63,C_di),(86,C_do),(87,C_dh),(88,C_dp)]
theorem g_dq:Qf Tryz.prog G_dq:=(Qa s_di (Qa s_do (Qa s_dh (Qa s_dp Qc))))
abbrev c_dq_5:Cut:=⟨i_dq_5,o_dq_5,fun x=>Qd l_dq_5 lots x⟩
theorem k_dq_5:Qt Tryz.prog 34 (.loop (nav Tryz.f32 [1,1,1,1,0,1,0,0])) c_dq_5:=
  Qg (L:=[]) hT g_dq (fun _ _=>by kernel_rfl) okP _
theorem r_dq (x):QF T G_dq [(5,c_dq_5)] Tryz.f32 C_dq.ps C_dq.rs x=C_dq.F x:=by kernel_rfl
theorem s_dq:Qb Tryz.prog 32 C_dq:=fnC (L:=[(5,c_dq_5)]) hT g_dq Tryz.f32 (okS okP (okS okP (okS okP (okS okP (okS (okS okP (okB (okU k_dq_5))) okP))))) r_dq
abbrev P_dr:List PK:=[.val Y32,.val YI,.val Y30]
def F_dr (x:denP P_dr):FO P_dr R_ag:=
 (F_dg (x.1,())).bind fun r1=>
 if (r1.1.1 !=(0:Int)) then
 some (((r1.1.1,(([]:List (den Y30)),(([]:List (den Y122)),(([]:List (den Y38)),(([]:List (den Y38)),(([]:List (den YI)),(([]:List (den Y45)),((0:Int),((0:Int),((0:Int),())))))))))),()),())
 else
 (F_cf (x.1.1,x.2.1,())).bind fun r2=>
 if (!r2.1.1) then
 some ((((4:Int),(([]:List (den Y30)),(([]:List (den Y122)),(([]:List (den Y38)),(([]:List (den Y38)),(([]:List (den YI)),(([]:List (den Y45)),((0:Int),((0:Int),((0:Int),())))))))))),()),())
 else
 if 0≤x.2.1 then
 ((x.1.2.2.1)[(x.2.1).toNat]?).bind fun y3=>
 (F_dj (y3,x.2.2.1,())).bind fun r4=>
 if (r4.1.1.1 !=(0:Int)) then
 some (((r4.1.1.1,(([]:List (den Y30)),(([]:List (den Y122)),(([]:List (den Y38)),(([]:List (den Y38)),(([]:List (den YI)),(([]:List (den Y45)),((0:Int),((0:Int),((0:Int),())))))))))),()),())
 else
 (F_dq (x.1,())).bind fun r5=>
 if 0≤x.2.1∧x.2.1< ((r5.1.1.2.2.2.2.2.1.length:Nat):Int) then
 ((r5.1.1.2.2.2.2.2.1)[(x.2.1).toNat]?).bind fun y6=>
 let v7:=(r5.1.1.2.2.2.2.2.1.set (x.2.1).toNat (r4.1.1.2.1,(r4.1.1.2.2.1,(r4.1.1.2.2.2.1,(r4.1.1.2.2.2.2.1,(r4.1.1.2.2.2.2.2.1,(r4.1.1.2.2.2.2.2.2.1,(r4.1.1.2.2.2.2.2.2.2.1,(r4.1.1.2.2.2.2.2.2.2.2.1,(r4.1.1.2.2.2.2.2.2.2.2.2.1,()))))))))))
 some ((((0:Int),(r5.1.1.1,(r5.1.1.2.1,(r5.1.1.2.2.1,(r5.1.1.2.2.2.1,(r5.1.1.2.2.2.2.1,(v7,(r5.1.1.2.2.2.2.2.2.1,(r5.1.1.2.2.2.2.2.2.2.1,(r5.1.1.2.2.2.2.2.2.2.2.1,())))))))))),()),())
 else none
 else none
abbrev C_dr:Con:=⟨P_dr,R_ag,F_dr,false⟩
abbrev G_dr:Env:=[(15,C_dg),(32,C_dq),(44,C_cf),(54,C_dj)]
theorem g_dr:Qf Tryz.prog G_dr:=(Qa s_dg (Qa s_dq (Qa s_cf (Qa s_dj Qc))))
theorem s_dr:Qb Tryz.prog 17 C_dr:=fnC (L:=[]) hT g_dr Tryz.f17 okP fun _=>by kernel_rfl
def l_ds_4 (rec:i_ae_2.den→Option (denO o_l_4)) (u:i_ae_2.den):Option (denO o_l_4):=
 let v7:=((u.1.1.length:Nat):Int)
 if (ltI u.1.2.1 v7) then
 if 0≤u.1.2.1 then
 ((u.1.1)[(u.1.2.1).toNat]?).bind fun y8=>
 (F_e (y8,(0:Int),(4294967295:Int),())).bind fun r9=>
 if (!r9.1.1) then
 some (.inr (.inl (((3:Int),()),((),()))))
 else
 let v10:=(IntKind.i64.wrap (u.1.2.1+(1:Int)))
 rec ((u.1.1,(v10,())),((),()))
 else none
 else
 some (.inl ((),((),())))
def L_ds_4 (x:i_ae_2.den):Option (denO o_l_4):=Qd l_ds_4 lots x
def F_ds (x:denP P_ae):FO P_ae R_c:=
 let v1:=((x.1.length:Nat):Int)
 let v2:=((v1).tmod (8:Int))
 if (v2 !=(0:Int))=false then
 let v3:=((x.1.length:Nat):Int)
 if (ltI v3 (8:Int))=false then
 let v4:=((x.1.length:Nat):Int)
 if (ltI (192:Int) v4) then
 some (((1:Int),()),())
 else
 (L_ds_4 ((x.1,((0:Int),())),((),()))).bind fun z11=>
 match z11 with
 | .inl x12=>
  some (((0:Int),()),())
 | .inr z11_=>
  match z11_ with
  | .inl x13=>
   some ((x13.1.1,()),())
  | .inr z11__=>
   none
 else
 some (((1:Int),()),())
 else
 some (((1:Int),()),())
abbrev C_ds:Con:=⟨P_ae,R_c,F_ds,false⟩
theorem g_ds:Qf Tryz.prog G_h:=(Qa s_e Qc)
abbrev c_ds_4:Cut:=⟨i_ae_2,o_l_4,fun x=>Qd l_ds_4 lots x⟩
theorem k_ds_4:Qt Tryz.prog 30 (.loop (nav Tryz.f126 [1,1,0,1,0,0])) c_ds_4:=
  Qg (L:=[]) hT g_ds (fun _ _=>by kernel_rfl) okP _
theorem r_ds (x):QF T G_h [(4,c_ds_4)] Tryz.f126 C_ds.ps C_ds.rs x=C_ds.F x:=by kernel_rfl
theorem s_ds:Qb Tryz.prog 126 C_ds:=fnC (L:=[(4,c_ds_4)]) hT g_ds Tryz.f126 (okS okP (okS okP (okS (okS okP (okB (okU k_ds_4))) okP))) r_ds
def F_dt (x:denP P_ae):FO P_ae R_a:=
 (F_ds (x.1,())).bind fun r1=>
 if (r1.1.1==(0:Int))=true then
 let v2:=((x.1.length:Nat):Int)
 some (((v2==(192:Int)),()),())
 else
 some ((false,()),())
abbrev C_dt:Con:=⟨P_ae,R_a,F_dt,false⟩
abbrev G_dt:Env:=[(126,C_ds)]
theorem g_dt:Qf Tryz.prog G_dt:=(Qa s_ds Qc)
theorem s_dt:Qb Tryz.prog 92 C_dt:=fnC (L:=[]) hT g_dt Tryz.f92 okP fun _=>by kernel_rfl
def F_du (x:denP P_an):FO P_an R_c:=
 let v1:=((x.1.1.length:Nat):Int)
 if (v1 !=(16:Int))=false then
 let v2:=((x.1.2.2.1.length:Nat):Int)
 if (v2 !=(11:Int))=false then
 ((x.1.1)[((0:Int)).toNat]?).bind fun y3=>
 if (y3 !=(0:Int)) then
 some (((1:Int),()),())
 else
 (F_ae (x.1.1,())).bind fun r4=>
 if (!r4.1.1)=false then
 (F_ad (x.1.2.1,())).bind fun r5=>
 if (!r5.1.1)=false then
 (F_ae (x.1.2.2.1,())).bind fun r6=>
 if (!r6.1.1)=false then
 (F_ae (x.1.2.2.2.2.2.2.2.1,())).bind fun r7=>
 if (!r7.1.1)=false then
 (F_ae (x.1.2.2.2.2.2.2.2.2.1,())).bind fun r8=>
 if (!r8.1.1) then
 some (((3:Int),()),())
 else
 let v9:=((x.1.2.2.2.2.2.2.2.1.length:Nat):Int)
 if (ltI (40:Int) v9)=false then
 let v10:=((x.1.2.2.2.2.2.2.2.2.1.length:Nat):Int)
 if (ltI (40:Int) v10) then
 some (((2:Int),()),())
 else
 (F_e (x.1.2.2.2.2.2.2.1,(0:Int),(1000000000:Int),())).bind fun r11=>
 if (!r11.1.1) then
 some (((3:Int),()),())
 else
 ((x.1.2.2.1)[((0:Int)).toNat]?).bind fun y12=>
 if (ltI (3:Int) y12)=false then
 ((x.1.2.2.1)[((7:Int)).toNat]?).bind fun y13=>
 if (ltI (7:Int) y13)=false then
 ((x.1.2.2.1)[((10:Int)).toNat]?).bind fun y14=>
 if (ltI (8:Int) y14)=false then
 ((x.1.2.2.1)[((6:Int)).toNat]?).bind fun y15=>
 if (y15 !=(0:Int))=false then
 ((x.1.2.2.1)[((8:Int)).toNat]?).bind fun y16=>
 if (y16 !=(0:Int)) then
 some (((1:Int),()),())
 else
 some (((0:Int),()),())
 else
 some (((1:Int),()),())
 else
 some (((1:Int),()),())
 else
 some (((1:Int),()),())
 else
 some (((1:Int),()),())
 else
 some (((2:Int),()),())
 else
 some (((3:Int),()),())
 else
 some (((3:Int),()),())
 else
 some (((3:Int),()),())
 else
 some (((3:Int),()),())
 else
 some (((1:Int),()),())
 else
 some (((1:Int),()),())
abbrev C_du:Con:=⟨P_an,R_c,F_du,false⟩
abbrev G_du:Env:=[(94,C_e),(117,C_ae),(144,C_ad)]
theorem g_du:Qf Tryz.prog G_du:=(Qa s_e (Qa s_ae (Qa s_ad Qc)))
theorem s_du:Qb Tryz.prog 93 C_du:=fnC (L:=[]) hT g_du Tryz.f93 okP fun _=>by kernel_rfl
abbrev i_dv_8:Shp:={ slots:=[(0,.s (.pd Y28)),(8,.s (.dat YI)),(9,.s (.dat YI))],boxes:=[],rows:=[] }
abbrev o_dv_8:List (Ex×Shp):=[(.exit 2,{ slots:=[(0,.s (.pd Y28)),(8,.s (.dat YI)),(9,.s (.dat YI))],boxes:=[],rows:=[] })]
def l_dv_8 (rec:i_dv_8.den→Option (denO o_dv_8)) (u:i_dv_8.den):Option (denO o_dv_8):=
 if 0≤u.1.2.2.1 then
 ((u.1.1.2.2.2.1)[(u.1.2.2.1).toNat]?).bind fun y11=>
 if (leI y11.2.1 u.1.2.1) then
 if 0≤u.1.2.2.1 then
 ((u.1.1.2.2.2.1)[(u.1.2.2.1).toNat]?).bind fun y12=>
 let v13:=(IntKind.i64.wrap (u.1.2.1-y12.2.1))
 let v14:=(IntKind.i64.wrap (u.1.2.2.1+(1:Int)))
 rec ((u.1.1,(v13,(v14,()))),((),()))
 else none
 else
 some (.inl ((u.1.1,(u.1.2.1,(u.1.2.2.1,()))),((),())))
 else none
def L_dv_8 (x:i_dv_8.den):Option (denO o_dv_8):=Qd l_dv_8 lots x
abbrev i_dv_3:Shp:={ slots:=[(0,.s (.pd Y28)),(1,.s (.dat YI)),(6,.s (.dat YI)),(7,.s (.dat YI))],boxes:=[],rows:=[] }
def l_dv_3 (rec:i_dv_3.den→Option (denO o_df_3)) (u:i_dv_3.den):Option (denO o_df_3):=
 let v2:=((u.1.1.2.2.2.1.length:Nat):Int)
 if (ltI u.1.2.2.2.1 v2) then
 if 0≤u.1.2.2.2.1 then
 ((u.1.1.2.2.2.1)[(u.1.2.2.2.1).toNat]?).bind fun y3=>
 let v4:=(IntKind.i64.wrap (u.1.2.2.1+y3.2.1))
 let v5:=(IntKind.i64.wrap (u.1.2.2.2.1+(1:Int)))
 rec ((u.1.1,(u.1.2.1,(v4,(v5,())))),((),()))
 else none
 else
 some (.inl ((u.1.1,(u.1.2.1,(u.1.2.2.1,()))),((),())))
def L_dv_3 (x:i_dv_3.den):Option (denO o_df_3):=Qd l_dv_3 lots x
def F_dv (x:denP P_h):FO P_h R_aw:=
 (L_dv_3 ((x.1,(x.2.1,((0:Int),((0:Int),())))),((),()))).bind fun z6=>
 match z6 with
 | .inl x7=>
  if x7.1.2.2.1=0 then none else
  let v8:=((x7.1.2.1).tmod x7.1.2.2.1)
  (L_dv_8 ((x7.1.1,(v8,((0:Int),()))),((),()))).bind fun z15=>
  match z15 with
  | .inl x16=>
   if 0≤x16.1.2.2.1 then
   ((x16.1.1.2.2.2.1)[(x16.1.2.2.1).toNat]?).bind fun y17=>
   let v18:=(IntKind.i64.wrap (y17.2.1-x16.1.2.1))
   some ((x16.1.2.2.1,v18,()),())
   else none
  | .inr z15_=>
   none
 | .inr z6_=>
  none
abbrev C_dv:Con:=⟨P_h,R_aw,F_dv,false⟩
abbrev c_dv_8:Cut:=⟨i_dv_8,o_dv_8,fun x=>Qd l_dv_8 lots x⟩
theorem k_dv_8:Qt Tryz.prog 65 (.loop (nav Tryz.f95 [1,1,1,1,1,0,0,0])) c_dv_8:=
  Qg (L:=[]) hT g_a (fun _ _=>by kernel_rfl) okP _
abbrev c_dv_3:Cut:=⟨i_dv_3,o_df_3,fun x=>Qd l_dv_3 lots x⟩
theorem k_dv_3:Qt Tryz.prog 65 (.loop (nav Tryz.f95 [1,1,0,1,0,0])) c_dv_3:=
  Qg (L:=[]) hT g_a (fun _ _=>by kernel_rfl) okP _
theorem r_dv (x):QF T G_a [(8,c_dv_8),(3,c_dv_3)] Tryz.f95 C_dv.ps C_dv.rs x=C_dv.F x:=by kernel_rfl
theorem s_dv:Qb Tryz.prog 95 C_dv:=fnC (L:=[(8,c_dv_8),(3,c_dv_3)]) hT g_a Tryz.f95 (okS okP (okS okP (okS (okS okP (okB (okU k_dv_3))) (okS okP (okS okP (okS (okB (okU k_dv_8)) okP)))))) r_dv
abbrev P_dw:List PK:=[.ptr Y32]
abbrev i_dw_7:Shp:={ slots:=[(0,.s (.pd Y32)),(4,.s (.dat YI))],boxes:=[],rows:=[] }
abbrev o_dw_7:List (Ex×Shp):=[(.exit 0,{ slots:=[(0,.s (.pd Y32))],boxes:=[],rows:=[] }),(.ret,{ slots:=[(2,.s (.dat YI))],boxes:=[],rows:=[] })]
def l_dw_7 (rec:i_dw_7.den→Option (denO o_dw_7)) (u:i_dw_7.den):Option (denO o_dw_7):=
 let v7:=((u.1.1.2.2.1.length:Nat):Int)
 if (ltI u.1.2.1 v7) then
 if 0≤u.1.2.1 then
 ((u.1.1.2.2.1)[(u.1.2.1).toNat]?).bind fun y8=>
 (F_du (y8,())).bind fun r9=>
 if (r9.1.1 !=(0:Int)) then
 some (.inr (.inl ((r9.1.1,()),((),()))))
 else
 let v10:=(IntKind.i64.wrap (u.1.2.1+(1:Int)))
 rec ((u.1.1,(v10,())),((),()))
 else none
 else
 some (.inl ((u.1.1,()),((),())))
def L_dw_7 (x:i_dw_7.den):Option (denO o_dw_7):=Qd l_dw_7 lots x
def F_dw (x:denP P_dw):FO P_dw R_c:=
 (F_x (x.1.1,())).bind fun r1=>
 if (r1.1.1 !=(0:Int)) then
 some ((r1.1.1,()),())
 else
 (F_dt (x.1.2.1,())).bind fun r2=>
 if (!r2.1.1)=false then
 let v3:=((x.1.2.2.1.length:Nat):Int)
 let v4:=((x.1.1.1.length:Nat):Int)
 if (v3 !=v4) then
 some (((1:Int),()),())
 else
 (L_dw_7 ((x.1,((0:Int),())),((),()))).bind fun z11=>
 match z11 with
 | .inl x12=>
  (F_e (x12.1.1.2.2.2.2.2.1,(0:Int),(1000000:Int),())).bind fun r13=>
  if (!r13.1.1) then
  some (((3:Int),()),())
  else
  (F_dv (x12.1.1.1,x12.1.1.2.2.2.2.2.1,())).bind fun r14=>
  if (x12.1.1.2.2.2.1 !=r14.1.1)=false then
  if (x12.1.1.2.2.2.2.1 !=r14.1.2.1) then
  some (((1:Int),()),())
  else
  some (((0:Int),()),())
  else
  some (((1:Int),()),())
 | .inr z11_=>
  match z11_ with
  | .inl x15=>
   some ((x15.1.1,()),())
  | .inr z11__=>
   none
 else
 some (((1:Int),()),())
abbrev C_dw:Con:=⟨P_dw,R_c,F_dw,false⟩
abbrev G_dw:Env:=[(91,C_x),(92,C_dt),(93,C_du),(94,C_e),(95,C_dv)]
theorem g_dw:Qf Tryz.prog G_dw:=(Qa s_x (Qa s_dt (Qa s_du (Qa s_e (Qa s_dv Qc)))))
abbrev c_dw_7:Cut:=⟨i_dw_7,o_dw_7,fun x=>Qd l_dw_7 lots x⟩
theorem k_dw_7:Qt Tryz.prog 85 (.loop (nav Tryz.f34 [1,1,1,0,1,0,0])) c_dw_7:=
  Qg (L:=[]) hT g_dw (fun _ _=>by kernel_rfl) okP _
theorem r_dw (x):QF T G_dw [(7,c_dw_7)] Tryz.f34 C_dw.ps C_dw.rs x=C_dw.F x:=by kernel_rfl
theorem s_dw:Qb Tryz.prog 34 C_dw:=fnC (L:=[(7,c_dw_7)]) hT g_dw Tryz.f34 (okS okP (okS okP (okS okP (okS (okS okP (okB (okU k_dw_7))) okP)))) r_dw
def F_dx (x:denP P_dj):FO P_dj R_af:=
 (F_du (x.1,())).bind fun r1=>
 if (r1.1.1 !=(0:Int)) then
 some (((r1.1.1,(([]:List (den YI)),((0:Int),(([]:List (den YI)),(false,(false,(false,((0:Int),(([]:List (den YI)),(([]:List (den YI)),())))))))))),()),())
 else
 (F_ae (x.2.1,())).bind fun r2=>
 if (!r2.1.1) then
 some ((((3:Int),(([]:List (den YI)),((0:Int),(([]:List (den YI)),(false,(false,(false,((0:Int),(([]:List (den YI)),(([]:List (den YI)),())))))))))),()),())
 else
 let v3:=((x.1.2.2.2.2.2.2.2.1.length:Nat):Int)
 let v4:=((x.2.1.length:Nat):Int)
 let v5:=(IntKind.i64.wrap (v3+v4))
 if (ltI (40:Int) v5) then
 some ((((2:Int),(([]:List (den YI)),((0:Int),(([]:List (den YI)),(false,(false,(false,((0:Int),(([]:List (den YI)),(([]:List (den YI)),())))))))))),()),())
 else
 (F_al (x.1,())).bind fun r6=>
 if (r6.1.1.2.2.2.2.2.2.2.1.length+x.2.1.length)*8≤140737488355328 then
 let v7:=(r6.1.1.2.2.2.2.2.2.2.1++x.2.1)
 some ((((0:Int),(r6.1.1.1,(r6.1.1.2.1,(r6.1.1.2.2.1,(r6.1.1.2.2.2.1,(r6.1.1.2.2.2.2.1,(r6.1.1.2.2.2.2.2.1,(r6.1.1.2.2.2.2.2.2.1,(v7,(r6.1.1.2.2.2.2.2.2.2.2.1,())))))))))),()),())
 else none
abbrev C_dx:Con:=⟨P_dj,R_af,F_dx,false⟩
abbrev G_dx:Env:=[(93,C_du),(98,C_al),(117,C_ae)]
theorem g_dx:Qf Tryz.prog G_dx:=(Qa s_du (Qa s_al (Qa s_ae Qc)))
theorem s_dx:Qb Tryz.prog 56 C_dx:=fnC (L:=[]) hT g_dx Tryz.f56 okP fun _=>by kernel_rfl
abbrev i_dy_3:Shp:={ slots:=[(1,.s (.ptr 1 0)),(2,.s (.ptr 2 0)),(3,.s (.ptr 3 0)),(4,.s (.dat YI))],boxes:=[(1,[.dat Y24,.dat Y25,.dat Y26,.dat Y26,.dat Y30,.dat Y31,.dat YI,.dat YI,.dat YI]),(2,[.own 30 Y30,.own 123 Y122,.own 53 Y38,.own 39 Y38,.own 2 YI,.own 46 Y45,.dat YI,.dat YI,.dat YI]),(3,[.own 30 Y30,.own 123 Y122,.own 53 Y38,.own 39 Y38,.own 2 YI,.own 46 Y45,.dat YI,.dat YI,.dat YI])],rows:=[] }
abbrev o_dy_3:List (Ex×Shp):=[(.exit 0,{ slots:=[(2,.s (.ptr 2 0)),(3,.s (.ptr 3 0))],boxes:=[(2,[.own 30 Y30,.own 123 Y122,.own 53 Y38,.own 39 Y38,.own 2 YI,.own 46 Y45,.dat YI,.dat YI,.dat YI]),(3,[.own 30 Y30,.own 123 Y122,.own 53 Y38,.own 39 Y38,.own 2 YI,.own 46 Y45,.dat YI,.dat YI,.dat YI])],rows:=[] })]
def l_dy_3 (rec:i_dy_3.den→Option (denO o_dy_3)) (u:i_dy_3.den):Option (denO o_dy_3):=
 let v5:=((u.2.1.1.2.2.2.2.2.1.length:Nat):Int)
 if (ltI u.1.2.2.2.1 v5) then
 if 0≤u.1.2.2.2.1 then
 ((u.2.1.1.2.2.2.2.2.1)[(u.1.2.2.2.1).toNat]?).bind fun y6=>
 (F_al (y6,())).bind fun r7=>
 if (u.2.1.2.2.1.2.2.2.2.2.1.length+[r7.1.1].length)*120≤140737488355328 then
 let v8:=(u.2.1.2.2.1.2.2.2.2.2.1++[r7.1.1])
 let v9:=(IntKind.i64.wrap (u.1.2.2.2.1+(1:Int)))
 rec (((),((),((),(v9,())))),((u.2.1.1,(u.2.1.2.1,((u.2.1.2.2.1.1,(u.2.1.2.2.1.2.1,(u.2.1.2.2.1.2.2.1,(u.2.1.2.2.1.2.2.2.1,(u.2.1.2.2.1.2.2.2.2.1,(v8,(u.2.1.2.2.1.2.2.2.2.2.2.1,(u.2.1.2.2.1.2.2.2.2.2.2.2.1,(u.2.1.2.2.1.2.2.2.2.2.2.2.2.1,()))))))))),()))),()))
 else none
 else none
 else
 some (.inl (((),((),())),((u.2.1.2.1,(u.2.1.2.2.1,())),())))
def L_dy_3 (x:i_dy_3.den):Option (denO o_dy_3):=Qd l_dy_3 lots x
def F_dy (x:denP P_dg):FO P_dg R_ah:=
 (F_ac (x.1.1,())).bind fun r1=>
 (F_ak (x.1.2.1,())).bind fun r2=>
 (L_dy_3 (((),((),((),((0:Int),())))),(((x.1.1.1,(x.1.1.2.1,(x.1.1.2.2.1,(x.1.1.2.2.2.1,(x.1.2.1,(x.1.2.2.1,(x.1.2.2.2.1,(x.1.2.2.2.2.1,(x.1.2.2.2.2.2.1,()))))))))),((([]:List (den Y30)),(([]:List (den Y122)),(([]:List (den Y38)),(([]:List (den Y38)),(([]:List (den YI)),(([]:List (den Y45)),((0:Int),((0:Int),((0:Int),()))))))))),((r1.1.1.1,(r1.1.1.2.1,(r1.1.1.2.2.1,(r1.1.1.2.2.2.1,(r2.1.1,(([]:List (den Y45)),(x.1.2.2.2.1,(x.1.2.2.2.2.1,(x.1.2.2.2.2.2.1,()))))))))),()))),()))).bind fun z10=>
 match z10 with
 | .inl x11=>
  some ((x11.2.1.2.1,()),())
 | .inr z10_=>
  none
abbrev C_dy:Con:=⟨P_dg,R_ah,F_dy,false⟩
abbrev G_dy:Env:=[(96,C_ac),(97,C_ak),(98,C_al)]
theorem g_dy:Qf Tryz.prog G_dy:=(Qa s_ac (Qa s_ak (Qa s_al Qc)))
abbrev c_dy_3:Cut:=⟨i_dy_3,o_dy_3,fun x=>Qd l_dy_3 lots x⟩
theorem k_dy_3:Qt Tryz.prog 37 (.loop (nav Tryz.f35 [1,1,0,1,0,0])) c_dy_3:=
  Qg (L:=[]) hT g_dy (fun _ _=>by kernel_rfl) okP _
theorem r_dy (x):QF T G_dy [(3,c_dy_3)] Tryz.f35 C_dy.ps C_dy.rs x=C_dy.F x:=by kernel_rfl
theorem s_dy:Qb Tryz.prog 35 C_dy:=fnC (L:=[(3,c_dy_3)]) hT g_dy Tryz.f35 (okS okP (okS okP (okS (okS okP (okB (okU k_dy_3))) okP))) r_dy
def F_dz (x:denP P_dr):FO P_dr R_ag:=
 (F_dw (x.1,())).bind fun r1=>
 if (r1.1.1 !=(0:Int)) then
 some (((r1.1.1,(([]:List (den Y30)),(([]:List (den Y122)),(([]:List (den Y38)),(([]:List (den Y38)),(([]:List (den YI)),(([]:List (den Y45)),((0:Int),((0:Int),((0:Int),())))))))))),()),())
 else
 (F_h (x.1.1,x.2.1,())).bind fun r2=>
 if (!r2.1.1) then
 some ((((4:Int),(([]:List (den Y30)),(([]:List (den Y122)),(([]:List (den Y38)),(([]:List (den Y38)),(([]:List (den YI)),(([]:List (den Y45)),((0:Int),((0:Int),((0:Int),())))))))))),()),())
 else
 if 0≤x.2.1 then
 ((x.1.2.2.1)[(x.2.1).toNat]?).bind fun y3=>
 (F_dx (y3,x.2.2.1,())).bind fun r4=>
 if (r4.1.1.1 !=(0:Int)) then
 some (((r4.1.1.1,(([]:List (den Y30)),(([]:List (den Y122)),(([]:List (den Y38)),(([]:List (den Y38)),(([]:List (den YI)),(([]:List (den Y45)),((0:Int),((0:Int),((0:Int),())))))))))),()),())
 else
 (F_dy (x.1,())).bind fun r5=>
 if 0≤x.2.1∧x.2.1< ((r5.1.1.2.2.2.2.2.1.length:Nat):Int) then
 ((r5.1.1.2.2.2.2.2.1)[(x.2.1).toNat]?).bind fun y6=>
 let v7:=(r5.1.1.2.2.2.2.2.1.set (x.2.1).toNat (r4.1.1.2.1,(r4.1.1.2.2.1,(r4.1.1.2.2.2.1,(r4.1.1.2.2.2.2.1,(r4.1.1.2.2.2.2.2.1,(r4.1.1.2.2.2.2.2.2.1,(r4.1.1.2.2.2.2.2.2.2.1,(r4.1.1.2.2.2.2.2.2.2.2.1,(r4.1.1.2.2.2.2.2.2.2.2.2.1,()))))))))))
 some ((((0:Int),(r5.1.1.1,(r5.1.1.2.1,(r5.1.1.2.2.1,(r5.1.1.2.2.2.1,(r5.1.1.2.2.2.2.1,(v7,(r5.1.1.2.2.2.2.2.2.1,(r5.1.1.2.2.2.2.2.2.2.1,(r5.1.1.2.2.2.2.2.2.2.2.1,())))))))))),()),())
 else none
 else none
abbrev C_dz:Con:=⟨P_dr,R_ag,F_dz,false⟩
abbrev G_dz:Env:=[(34,C_dw),(35,C_dy),(55,C_h),(56,C_dx)]
theorem g_dz:Qf Tryz.prog G_dz:=(Qa s_dw (Qa s_dy (Qa s_h (Qa s_dx Qc))))
theorem s_dz:Qb Tryz.prog 18 C_dz:=fnC (L:=[]) hT g_dz Tryz.f18 okP fun _=>by kernel_rfl
def F_ea (x:denP P_f):FO P_f R_u:=
 let v1:=(IntKind.i64.wrap (x.2.1*(8:Int)))
 let v2:=(IntKind.i64.wrap (x.2.1+(1:Int)))
 let v3:=(IntKind.i64.wrap (v2*(8:Int)))
 if 0≤v1∧v1≤v3∧v3≤((x.1.length:Nat):Int) then
 let v4:=((x.1.drop (v1).toNat).take ((v3).toNat-(v1).toNat))
 (F_dh (v4,())).bind fun r5=>
 some ((r5.1.1,()),())
 else none
abbrev C_ea:Con:=⟨P_f,R_u,F_ea,false⟩
theorem g_ea:Qf Tryz.prog G_di:=(Qa s_dh Qc)
theorem s_ea:Qb Tryz.prog 43 C_ea:=fnC (L:=[]) hT g_ea Tryz.f43 okP fun _=>by kernel_rfl
abbrev P_eb:List PK:=[.val Y30,.val Y30]
abbrev i_eb_3:Shp:={ slots:=[(0,.s (.dat Y30)),(5,.s (.own 2 YI)),(9,.s (.dat Y30)),(10,.s (.dat YI)),(11,.s (.dat YI))],boxes:=[],rows:=[] }
def l_eb_3 (rec:i_eb_3.den→Option (denO o_aa_3)) (u:i_eb_3.den):Option (denO o_aa_3):=
 if (ltI u.1.2.2.2.2.1 u.1.2.2.2.1) then
 if 0≤u.1.2.2.2.2.1 then
 ((u.1.2.2.1)[(u.1.2.2.2.2.1).toNat]?).bind fun y4=>
 (F_ea (u.1.1,y4,())).bind fun r5=>
 if (u.1.2.1.length+r5.1.1.length)*8≤140737488355328 then
 let v6:=(u.1.2.1++r5.1.1)
 let v7:=(IntKind.i64.wrap (u.1.2.2.2.2.1+(1:Int)))
 rec ((u.1.1,(v6,(u.1.2.2.1,(u.1.2.2.2.1,(v7,()))))),((),()))
 else none
 else none
 else
 some (.inl ((u.1.2.1,()),((),())))
def L_eb_3 (x:i_eb_3.den):Option (denO o_aa_3):=Qd l_eb_3 lots x
def F_eb (x:denP P_eb):FO P_eb R_u:=
 let v1:=((x.2.1.length:Nat):Int)
 (L_eb_3 ((x.1,(([]:List (den YI)),(x.2.1,(v1,((0:Int),()))))),((),()))).bind fun z8=>
 match z8 with
 | .inl x9=>
  some ((x9.1.1,()),())
 | .inr z8_=>
  none
abbrev C_eb:Con:=⟨P_eb,R_u,F_eb,false⟩
abbrev G_eb:Env:=[(43,C_ea)]
theorem g_eb:Qf Tryz.prog G_eb:=(Qa s_ea Qc)
abbrev c_eb_3:Cut:=⟨i_eb_3,o_aa_3,fun x=>Qd l_eb_3 lots x⟩
theorem k_eb_3:Qt Tryz.prog 22 (.loop (nav Tryz.f108 [1,1,0,1,0,0])) c_eb_3:=
  Qg (L:=[]) hT g_eb (fun _ _=>by kernel_rfl) okP _
theorem r_eb (x):QF T G_eb [(3,c_eb_3)] Tryz.f108 C_eb.ps C_eb.rs x=C_eb.F x:=by kernel_rfl
theorem s_eb:Qb Tryz.prog 108 C_eb:=fnC (L:=[(3,c_eb_3)]) hT g_eb Tryz.f108 (okS okP (okS okP (okS (okS okP (okB (okU k_eb_3))) okP))) r_eb
abbrev P_ec:List PK:=[.ptr Y32,.val YI]
abbrev R_ec:List VK:=[.g [.own 2 YI,.dat YI,.own 2 YI,.dat .bool,.dat .bool,.dat .bool,.dat YI,.own 2 YI,.own 2 YI,.own 2 YI,.own 2 YI]]
abbrev i_ec_3:Shp:={ slots:=[(0,.s (.pd Y32)),(1,.s (.dat YI)),(4,.s (.ptr 4 0)),(5,.s (.ptr 5 0)),(34,.s (.dat Y25)),(35,.s (.dat YI)),(36,.s (.dat YI))],boxes:=[(4,[.own 2 YI,.dat YI,.own 2 YI,.dat .bool,.dat .bool,.dat .bool,.dat YI,.own 2 YI,.own 2 YI,.own 2 YI,.own 2 YI]),(5,[.own 2 YI,.dat YI,.own 2 YI,.dat .bool,.dat .bool,.dat .bool,.dat YI,.own 2 YI,.own 2 YI,.own 2 YI,.own 2 YI])],rows:=[] }
abbrev o_ec_3:List (Ex×Shp):=[(.exit 0,{ slots:=[(4,.s (.ptr 4 0)),(5,.s (.ptr 5 0))],boxes:=[(4,[.own 2 YI,.dat YI,.own 2 YI,.dat .bool,.dat .bool,.dat .bool,.dat YI,.own 2 YI,.own 2 YI,.own 2 YI,.own 2 YI]),(5,[.own 2 YI,.dat YI,.own 2 YI,.dat .bool,.dat .bool,.dat .bool,.dat YI,.own 2 YI,.own 2 YI,.own 2 YI,.own 2 YI])],rows:=[] })]
def l_ec_3 (rec:i_ec_3.den→Option (denO o_ec_3)) (u:i_ec_3.den):Option (denO o_ec_3):=
 if (ltI u.1.2.2.2.2.2.2.1 u.1.2.2.2.2.2.1) then
 if 0≤u.1.2.2.2.2.2.2.1 then
 ((u.1.2.2.2.2.1)[(u.1.2.2.2.2.2.2.1).toNat]?).bind fun y8=>
 if (y8.1==u.1.2.1) then
 (F_ea (u.1.1.2.1,y8.2.2.1,())).bind fun r9=>
 if (u.2.1.2.1.2.2.2.2.2.2.2.2.2.2.1.length+r9.1.1.length)*8≤140737488355328 then
 let v10:=(u.2.1.2.1.2.2.2.2.2.2.2.2.2.2.1++r9.1.1)
 let v11:=(IntKind.i64.wrap (u.1.2.2.2.2.2.2.1+(1:Int)))
 rec ((u.1.1,(u.1.2.1,((),((),(u.1.2.2.2.2.1,(u.1.2.2.2.2.2.1,(v11,()))))))),((u.2.1.1,((u.2.1.2.1.1,(u.2.1.2.1.2.1,(u.2.1.2.1.2.2.1,(u.2.1.2.1.2.2.2.1,(u.2.1.2.1.2.2.2.2.1,(u.2.1.2.1.2.2.2.2.2.1,(u.2.1.2.1.2.2.2.2.2.2.1,(u.2.1.2.1.2.2.2.2.2.2.2.1,(u.2.1.2.1.2.2.2.2.2.2.2.2.1,(u.2.1.2.1.2.2.2.2.2.2.2.2.2.1,(v10,()))))))))))),())),()))
 else none
 else
 let v12:=(IntKind.i64.wrap (u.1.2.2.2.2.2.2.1+(1:Int)))
 rec ((u.1.1,(u.1.2.1,((),((),(u.1.2.2.2.2.1,(u.1.2.2.2.2.2.1,(v12,()))))))),((u.2.1.1,(u.2.1.2.1,())),()))
 else none
 else
 some (.inl (((),((),())),((u.2.1.1,(u.2.1.2.1,())),())))
def L_ec_3 (x:i_ec_3.den):Option (denO o_ec_3):=Qd l_ec_3 lots x
def F_ec (x:denP P_ec):FO P_ec R_ec:=
 if 0≤x.2.1 then
 ((x.1.2.2.1)[(x.2.1).toNat]?).bind fun y1=>
 (F_di (y1,())).bind fun r2=>
 if 0≤x.2.1 then
 ((x.1.1.1)[(x.2.1).toNat]?).bind fun y3=>
 (F_eb (x.1.2.1,y3,())).bind fun r4=>
 let v5:=((x.1.1.2.1.length:Nat):Int)
 (L_ec_3 ((x.1,(x.2.1,((),((),(x.1.1.2.1,(v5,((0:Int),()))))))),(((([]:List (den YI)),((0:Int),(([]:List (den YI)),(false,(false,(false,((0:Int),(([]:List (den YI)),(([]:List (den YI)),(([]:List (den YI)),(([]:List (den YI)),()))))))))))),((r2.1.1.1,(r2.1.1.2.1,(r2.1.1.2.2.1,(r2.1.1.2.2.2.1,(r2.1.1.2.2.2.2.1,(r2.1.1.2.2.2.2.2.1,(r2.1.1.2.2.2.2.2.2.1,(r2.1.1.2.2.2.2.2.2.2.1,(r2.1.1.2.2.2.2.2.2.2.2.1,(r4.1.1,(([]:List (den YI)),()))))))))))),())),()))).bind fun z13=>
 match z13 with
 | .inl x14=>
  some ((x14.2.1.2.1,()),())
 | .inr z13_=>
  none
 else none
 else none
abbrev C_ec:Con:=⟨P_ec,R_ec,F_ec,false⟩
abbrev G_ec:Env:=[(43,C_ea),(63,C_di),(108,C_eb)]
theorem g_ec:Qf Tryz.prog G_ec:=(Qa s_ea (Qa s_di (Qa s_eb Qc)))
abbrev c_ec_3:Cut:=⟨i_ec_3,o_ec_3,fun x=>Qd l_ec_3 lots x⟩
theorem k_ec_3:Qt Tryz.prog 57 (.loop (nav Tryz.f45 [1,1,0,1,0,0])) c_ec_3:=
  Qg (L:=[]) hT g_ec (fun _ _=>by kernel_rfl) okP _
theorem r_ec (x):QF T G_ec [(3,c_ec_3)] Tryz.f45 C_ec.ps C_ec.rs x=C_ec.F x:=by kernel_rfl
theorem s_ec:Qb Tryz.prog 45 C_ec:=fnC (L:=[(3,c_ec_3)]) hT g_ec Tryz.f45 (okS okP (okS okP (okS (okS okP (okB (okU k_ec_3))) okP))) r_ec
abbrev P_ed:List PK:=[.val Y32,.val YI]
abbrev R_ed:List VK:=[.g [.dat YI,.own 2 YI,.dat YI,.own 2 YI,.dat .bool,.dat .bool,.dat .bool,.dat YI,.own 2 YI,.own 2 YI,.own 2 YI,.own 2 YI]]
def F_ed (x:denP P_ed):FO P_ed R_ed:=
 (F_dg (x.1,())).bind fun r1=>
 if (r1.1.1 !=(0:Int)) then
 some (((r1.1.1,(([]:List (den YI)),((0:Int),(([]:List (den YI)),(false,(false,(false,((0:Int),(([]:List (den YI)),(([]:List (den YI)),(([]:List (den YI)),(([]:List (den YI)),())))))))))))),()),())
 else
 (F_cf (x.1.1,x.2.1,())).bind fun r2=>
 if (!r2.1.1) then
 some ((((4:Int),(([]:List (den YI)),((0:Int),(([]:List (den YI)),(false,(false,(false,((0:Int),(([]:List (den YI)),(([]:List (den YI)),(([]:List (den YI)),(([]:List (den YI)),())))))))))))),()),())
 else
 (F_ec (x.1,x.2.1,())).bind fun r3=>
 some ((((0:Int),r3.1.1),()),())
abbrev C_ed:Con:=⟨P_ed,R_ed,F_ed,false⟩
abbrev G_ed:Env:=[(15,C_dg),(44,C_cf),(45,C_ec)]
theorem g_ed:Qf Tryz.prog G_ed:=(Qa s_dg (Qa s_cf (Qa s_ec Qc)))
theorem s_ed:Qb Tryz.prog 13 C_ed:=fnC (L:=[]) hT g_ed Tryz.f13 okP fun _=>by kernel_rfl
abbrev i_ee_4:Shp:={ slots:=[(0,.s (.dat Y30)),(1,.s (.dat Y30)),(12,.s (.dat YI)),(13,.s (.dat YI))],boxes:=[],rows:=[] }
def l_ee_4 (rec:i_ee_4.den→Option (denO o_f_2)) (u:i_ee_4.den):Option (denO o_f_2):=
 if (ltI u.1.2.2.2.1 u.1.2.2.1) then
 if 0≤u.1.2.2.2.1 then
 ((u.1.1)[(u.1.2.2.2.1).toNat]?).bind fun y6=>
 if 0≤u.1.2.2.2.1 then
 ((u.1.2.1)[(u.1.2.2.2.1).toNat]?).bind fun y7=>
 if (y6 !=y7) then
 some (.inr (.inl ((false,()),((),()))))
 else
 let v8:=(IntKind.i64.wrap (u.1.2.2.2.1+(1:Int)))
 rec ((u.1.1,(u.1.2.1,(u.1.2.2.1,(v8,())))),((),()))
 else none
 else none
 else
 some (.inl ((),((),())))
def L_ee_4 (x:i_ee_4.den):Option (denO o_f_2):=Qd l_ee_4 lots x
def F_ee (x:denP P_eb):FO P_eb R_a:=
 let v1:=((x.1.length:Nat):Int)
 let v2:=((x.2.1.length:Nat):Int)
 if (v1 !=v2) then
 some ((false,()),())
 else
 let v3:=((x.1.length:Nat):Int)
 (L_ee_4 ((x.1,(x.2.1,(v3,((0:Int),())))),((),()))).bind fun z9=>
 match z9 with
 | .inl x10=>
  some ((true,()),())
 | .inr z9_=>
  match z9_ with
  | .inl x11=>
   some ((x11.1.1,()),())
  | .inr z9__=>
   none
abbrev C_ee:Con:=⟨P_eb,R_a,F_ee,false⟩
abbrev c_ee_4:Cut:=⟨i_ee_4,o_f_2,fun x=>Qd l_ee_4 lots x⟩
theorem k_ee_4:Qt Tryz.prog 26 (.loop (nav Tryz.f42 [1,1,0,1,0,0])) c_ee_4:=
  Qg (L:=[]) hT g_a (fun _ _=>by kernel_rfl) okP _
theorem r_ee (x):QF T G_a [(4,c_ee_4)] Tryz.f42 C_ee.ps C_ee.rs x=C_ee.F x:=by kernel_rfl
theorem s_ee:Qb Tryz.prog 42 C_ee:=fnC (L:=[(4,c_ee_4)]) hT g_a Tryz.f42 (okS okP (okS okP (okS (okS okP (okB (okU k_ee_4))) okP))) r_ee
abbrev P_ef:List PK:=[.val Y45,.val Y45]
def F_ef (x:denP P_ef):FO P_ef R_a:=
 (F_ee (x.1.1,x.2.1.1,())).bind fun r1=>
 if r1.1.1=true then
 if (x.1.2.1==x.2.1.2.1)=true then
 (F_ee (x.1.2.2.1,x.2.1.2.2.1,())).bind fun r2=>
 if r2.1.1=true then
 if (x.1.2.2.2.1==x.2.1.2.2.2.1)=true then
 if (x.1.2.2.2.2.1==x.2.1.2.2.2.2.1)=true then
 if (x.1.2.2.2.2.2.1==x.2.1.2.2.2.2.2.1)=true then
 if (x.1.2.2.2.2.2.2.1==x.2.1.2.2.2.2.2.2.1)=true then
 (F_ee (x.1.2.2.2.2.2.2.2.1,x.2.1.2.2.2.2.2.2.2.1,())).bind fun r3=>
 if r3.1.1=true then
 (F_ee (x.1.2.2.2.2.2.2.2.2.1,x.2.1.2.2.2.2.2.2.2.2.1,())).bind fun r4=>
 some ((r4.1.1,()),())
 else
 some ((false,()),())
 else
 some ((false,()),())
 else
 some ((false,()),())
 else
 some ((false,()),())
 else
 some ((false,()),())
 else
 some ((false,()),())
 else
 some ((false,()),())
 else
 some ((false,()),())
abbrev C_ef:Con:=⟨P_ef,R_a,F_ef,false⟩
abbrev G_ef:Env:=[(42,C_ee)]
theorem g_ef:Qf Tryz.prog G_ef:=(Qa s_ee Qc)
theorem s_ef:Qb Tryz.prog 46 C_ef:=fnC (L:=[]) hT g_ef Tryz.f46 okP fun _=>by kernel_rfl
abbrev P_eg:List PK:=[.val Y47,.val Y47]
def F_eg (x:denP P_eg):FO P_eg R_a:=
 (F_ef (x.1.1,x.2.1.1,())).bind fun r1=>
 if r1.1.1=true then
 (F_ee (x.1.2.1,x.2.1.2.1,())).bind fun r2=>
 if r2.1.1=true then
 (F_ee (x.1.2.2.1,x.2.1.2.2.1,())).bind fun r3=>
 some ((r3.1.1,()),())
 else
 some ((false,()),())
 else
 some ((false,()),())
abbrev C_eg:Con:=⟨P_eg,R_a,F_eg,false⟩
abbrev G_eg:Env:=[(42,C_ee),(46,C_ef)]
theorem g_eg:Qf Tryz.prog G_eg:=(Qa s_ee (Qa s_ef Qc))
theorem s_eg:Qb Tryz.prog 14 C_eg:=fnC (L:=[]) hT g_eg Tryz.f14 okP fun _=>by kernel_rfl
abbrev i_eh_2:Shp:={ slots:=[(5,.s (.dat Y30)),(6,.s (.dat YI)),(7,.s (.dat YI))],boxes:=[],rows:=[] }
def l_eh_2 (rec:i_eh_2.den→Option (denO o_l_4)) (u:i_eh_2.den):Option (denO o_l_4):=
 if (ltI u.1.2.2.1 u.1.2.1) then
 if 0≤u.1.2.2.1 then
 ((u.1.1)[(u.1.2.2.1).toNat]?).bind fun y3=>
 if (y3 !=(0:Int)) then
 some (.inr (.inl ((y3,()),((),()))))
 else
 let v4:=(IntKind.i64.wrap (u.1.2.2.1+(1:Int)))
 rec ((u.1.1,(u.1.2.1,(v4,()))),((),()))
 else none
 else
 some (.inl ((),((),())))
def L_eh_2 (x:i_eh_2.den):Option (denO o_l_4):=Qd l_eh_2 lots x
def F_eh (x:denP P_ae):FO P_ae R_c:=
 let v1:=((x.1.length:Nat):Int)
 (L_eh_2 ((x.1,(v1,((0:Int),()))),((),()))).bind fun z5=>
 match z5 with
 | .inl x6=>
  some (((0:Int),()),())
 | .inr z5_=>
  match z5_ with
  | .inl x7=>
   some ((x7.1.1,()),())
  | .inr z5__=>
   none
abbrev C_eh:Con:=⟨P_ae,R_c,F_eh,false⟩
abbrev c_eh_2:Cut:=⟨i_eh_2,o_l_4,fun x=>Qd l_eh_2 lots x⟩
theorem k_eh_2:Qt Tryz.prog 15 (.loop (nav Tryz.f40 [1,0,1,0,0])) c_eh_2:=
  Qg (L:=[]) hT g_a (fun _ _=>by kernel_rfl) okP _
theorem r_eh (x):QF T G_a [(2,c_eh_2)] Tryz.f40 C_eh.ps C_eh.rs x=C_eh.F x:=by kernel_rfl
theorem s_eh:Qb Tryz.prog 40 C_eh:=fnC (L:=[(2,c_eh_2)]) hT g_a Tryz.f40 (okS okP (okS (okS okP (okB (okU k_eh_2))) okP)) r_eh
abbrev P_ei_1:List PK:=[.val Y32,.ptr YI]
def F_ei_1 (x:denP P_ei_1):FO P_ei_1 R_a:=
 let v1:=(IntKind.i64.wrap (x.1.2.2.2.2.2.1+x.2.1))
 some (((ltI (1000000:Int) v1),()),())
abbrev C_ei_1:Con:=⟨P_ei_1,R_a,F_ei_1,false⟩
theorem s_ei_1:Qb Tryz.prog 119 C_ei_1:=fnC (L:=[]) hT g_a Tryz.f119 okP fun _=>by kernel_rfl
abbrev P_ej_1:List PK:=[.val Y164,.fn 119 [YI]]
abbrev i_ek_2:Shp:={ slots:=[(0,.s (.dat Y164)),(1,.s (.fn 119 [YI])),(7,.s (.dat YI)),(8,.s (.dat YI))],boxes:=[],rows:=[] }
def l_ek_2 (rec:i_ek_2.den→Option (denO o_j_2)) (u:i_ek_2.den):Option (denO o_j_2):=
 if (ltI u.1.2.2.2.1 u.1.2.2.1) then
 if 0≤u.1.2.2.2.1 then
 ((u.1.1)[(u.1.2.2.2.1).toNat]?).bind fun y4=>
 (F_ei_1 (y4,u.1.2.1.1,())).bind fun r5=>
 if r5.1.1 then
 some (.inr (.inl ((u.1.2.2.2.1,()),((),()))))
 else
 let v6:=(IntKind.i64.wrap (u.1.2.2.2.1+(1:Int)))
 rec ((u.1.1,((u.1.2.1.1,()),(u.1.2.2.1,(v6,())))),((),()))
 else none
 else
 some (.inl ((),((),())))
def L_ek_2 (x:i_ek_2.den):Option (denO o_j_2):=Qd l_ek_2 lots x
def F_ej_1 (x:denP P_ej_1):FO P_ej_1 R_c:=
 let v1:=((x.1.length:Nat):Int)
 (L_ek_2 ((x.1,((x.2.1.1,()),(v1,((0:Int),())))),((),()))).bind fun z7=>
 match z7 with
 | .inl x8=>
  some (((-1:Int),()),())
 | .inr z7_=>
  match z7_ with
  | .inl x9=>
   some ((x9.1.1,()),())
  | .inr z7__=>
   none
abbrev C_ej_1:Con:=⟨P_ej_1,R_c,F_ej_1,false⟩
abbrev G_ej_1:Env:=[(119,C_ei_1)]
theorem g_ej_1:Qf Tryz.prog G_ej_1:=(Qa s_ei_1 Qc)
abbrev c_ek_2:Cut:=⟨i_ek_2,o_j_2,fun x=>Qd l_ek_2 lots x⟩
theorem k_ek_2:Qt Tryz.prog 19 (.loop (nav Tryz.f172 [1,0,1,0,0])) c_ek_2:=
  Qg (L:=[]) hT g_ej_1 (fun _ _=>by kernel_rfl) okP _
theorem r_ej_1 (x):QF T G_ej_1 [(2,c_ek_2)] Tryz.f172 C_ej_1.ps C_ej_1.rs x=C_ej_1.F x:=by kernel_rfl
theorem s_ej_1:Qb Tryz.prog 172 C_ej_1:=fnC (L:=[(2,c_ek_2)]) hT g_ej_1 Tryz.f172 (okS okP (okS (okS okP (okB (okU k_ek_2))) okP)) r_ej_1
def F_el_1 (x:denP P_ej_1):FO P_ej_1 R_a:=
 (F_ej_1 (x.1,(x.2.1.1,()),())).bind fun r1=>
 some (((leI (0:Int) r1.1.1),()),())
abbrev C_el_1:Con:=⟨P_ej_1,R_a,F_el_1,false⟩
abbrev G_el_1:Env:=[(172,C_ej_1)]
theorem g_el_1:Qf Tryz.prog G_el_1:=(Qa s_ej_1 Qc)
theorem s_el_1:Qb Tryz.prog 118 C_el_1:=fnC (L:=[]) hT g_el_1 Tryz.f118 okP fun _=>by kernel_rfl
abbrev P_ei:List PK:=[.val YI,.val Y164]
def F_ei (x:denP P_ei):FO P_ei R_c:=
 (F_cd (x.1,(0:Int),(200:Int),())).bind fun r1=>
 if (!r1.1.1)=false then
 (F_el_1 (x.2.1,(x.1,()),())).bind fun r2=>
 if r2.1.1 then
 some (((3:Int),()),())
 else
 some (((0:Int),()),())
 else
 some (((3:Int),()),())
abbrev C_ei:Con:=⟨P_ei,R_c,F_ei,false⟩
abbrev G_ei:Env:=[(50,C_cd),(118,C_el_1)]
theorem g_ei:Qf Tryz.prog G_ei:=(Qa s_cd (Qa s_el_1 Qc))
theorem s_ei:Qb Tryz.prog 57 C_ei:=fnC (L:=[]) hT g_ei Tryz.f57 okP fun _=>by kernel_rfl
def F_em (x:denP P_dw):FO P_dw R_c:=
 if 0≤x.1.2.2.2.1 then
 ((x.1.1.2.2.2.1)[(x.1.2.2.2.1).toNat]?).bind fun y1=>
 some ((y1.1,()),())
 else none
abbrev C_em:Con:=⟨P_dw,R_c,F_em,false⟩
theorem s_em:Qb Tryz.prog 68 C_em:=fnC (L:=[]) hT g_a Tryz.f68 okP fun _=>by kernel_rfl
def F_en (x:denP P_ai):FO P_ai R_r:=
 some ((((-1:Int),((0:Int),())),()),())
abbrev C_en:Con:=⟨P_ai,R_r,F_en,false⟩
theorem s_en:Qb Tryz.prog 104 C_en:=fnC (L:=[]) hT g_a Tryz.f104 okP fun _=>by kernel_rfl
abbrev P_eo:List PK:=[.val (.int .u64),.val (.int .u64)]
abbrev R_eo:List VK:=[.s (.dat (.int .u64)),.s (.dat (.int .u64))]
def F_eo (x:denP P_eo):FO P_eo R_eo:=
 let v1:=(iand .u64 x.1 (4294967295:Int))
 let v2:=((x.1).fdiv (2 ^ 32))
 let v3:=(iand .u64 x.2.1 (4294967295:Int))
 let v4:=((x.2.1).fdiv (2 ^ 32))
 let v5:=(IntKind.u64.wrap (v1*v3))
 let v6:=(IntKind.u64.wrap (v2*v3))
 let v7:=((v5).fdiv (2 ^ 32))
 let v8:=(IntKind.u64.wrap (v6+v7))
 let v9:=(iand .u64 v8 (4294967295:Int))
 let v10:=((v8).fdiv (2 ^ 32))
 let v11:=(IntKind.u64.wrap (v1*v4))
 let v12:=(IntKind.u64.wrap (v9+v11))
 let v13:=(IntKind.u64.wrap (v2*v4))
 let v14:=(IntKind.u64.wrap (v13+v10))
 let v15:=((v12).fdiv (2 ^ 32))
 let v16:=(IntKind.u64.wrap (v14+v15))
 let v17:=(IntKind.u64.wrap (x.1*x.2.1))
 some ((v16,v17,()),())
abbrev C_eo:Con:=⟨P_eo,R_eo,F_eo,false⟩
theorem s_eo:Qb Tryz.prog 208 C_eo:=fnC (L:=[]) hT g_a Tryz.f208 okP fun _=>by kernel_rfl
def F_ep (x:denP P_eo):FO P_eo R_eo:=
 (F_eo (x.1,x.2.1,())).bind fun r1=>
 some ((r1.1.1,r1.1.2.1,()),())
abbrev C_ep:Con:=⟨P_eo,R_eo,F_ep,false⟩
abbrev G_ep:Env:=[(208,C_eo)]
theorem g_ep:Qf Tryz.prog G_ep:=(Qa s_eo Qc)
theorem s_ep:Qb Tryz.prog 153 C_ep:=fnC (L:=[]) hT g_ep Tryz.f153 okP fun _=>by kernel_rfl
abbrev P_eq:List PK:=[.val Y26,.val YI]
abbrev i_eq_8:Shp:={ slots:=[(7,.s (.own 88 Y38)),(8,.s (.dat YI))],boxes:=[],rows:=[] }
abbrev o_eq_8:List (Ex×Shp):=[(.exit 0,{ slots:=[(7,.s (.own 88 Y38))],boxes:=[],rows:=[] })]
def l_eq_8 (rec:i_eq_8.den→Option (denO o_eq_8)) (u:i_eq_8.den):Option (denO o_eq_8):=
 let v8:=((u.1.1.length:Nat):Int)
 if (ltI u.1.2.1 v8) then
 if 0≤u.1.2.1∧u.1.2.1≤((u.1.1.length:Nat):Int)∧((u.1.1.length:Nat):Int)≤((u.1.1.length:Nat):Int) then
 if 0≤(0:Int)∧(0:Int)≤u.1.2.1∧u.1.2.1≤((u.1.1.length:Nat):Int) then
 if 0< ((((u.1.1.length:Nat):Int)).toNat-(u.1.2.1).toNat)∧0< ((u.1.1.drop (0+((0:Int)).toNat)).take ((u.1.2.1).toNat-((0:Int)).toNat)).length then
 let v9:=(splc u.1.1 ((u.1.1.drop (0+((0:Int)).toNat)).take ((u.1.2.1).toNat-((0:Int)).toNat)) (0+(u.1.2.1).toNat) ((((u.1.1.length:Nat):Int)).toNat-(u.1.2.1).toNat))
 let v10:=((min ((((u.1.1.length:Nat):Int)).toNat-(u.1.2.1).toNat) ((u.1.1.drop (0+((0:Int)).toNat)).take ((u.1.2.1).toNat-((0:Int)).toNat)).length:Nat):Int)
 let v11:=(IntKind.i64.wrap (u.1.2.1+v10))
 rec ((v9,(v11,())),((),()))
 else none
 else none
 else none
 else
 some (.inl ((u.1.1,()),((),())))
def L_eq_8 (x:i_eq_8.den):Option (denO o_eq_8):=Qd l_eq_8 lots x
def F_eq (x:denP P_eq):FO P_eq R_aj:=
 if (ltI x.2.1 (0:Int)) then none else
 let v1:=((x.1.length:Nat):Int)
 let v2:=(IntKind.u64.wrap v1)
 let v3:=(IntKind.u64.wrap x.2.1)
 (F_ep (v2,v3,())).bind fun r4=>
 if (ltI (0:Int) r4.1.1)=false then
 if (ltI (9223372036854775807:Int) r4.1.2.1) then none else
 let v5:=(IntKind.i64.wrap r4.1.2.1)
 if v5=v5∧0≤v5∧v5*16≤140737488355328∧v5≤9223372036854775807 then
 if 0< (List.replicate (v5).toNat (Qby Y38)).length∧0< x.1.length then
 let v6:=(splc (List.replicate (v5).toNat (Qby Y38)) x.1 0 (List.replicate (v5).toNat (Qby Y38)).length)
 let v7:=((min (List.replicate (v5).toNat (Qby Y38)).length x.1.length:Nat):Int)
 (L_eq_8 ((v6,(v7,())),((),()))).bind fun z12=>
 match z12 with
 | .inl x13=>
  some ((x13.1.1,()),())
 | .inr z12_=>
  none
 else none
 else none
 else none
abbrev C_eq:Con:=⟨P_eq,R_aj,F_eq,false⟩
abbrev G_eq:Env:=[(153,C_ep)]
theorem g_eq:Qf Tryz.prog G_eq:=(Qa s_ep Qc)
abbrev c_eq_8:Cut:=⟨i_eq_8,o_eq_8,fun x=>Qd l_eq_8 lots x⟩
theorem k_eq_8:Qt Tryz.prog 48 (.loop (nav Tryz.f103 [1,1,1,1,1,1,0,0,0])) c_eq_8:=
  Qg (L:=[]) hT g_eq (fun _ _=>by kernel_rfl) okP _
theorem r_eq (x):QF T G_eq [(8,c_eq_8)] Tryz.f103 C_eq.ps C_eq.rs x=C_eq.F x:=by kernel_rfl
theorem s_eq:Qb Tryz.prog 103 C_eq:=fnC (L:=[(8,c_eq_8)]) hT g_eq Tryz.f103 (okS okP (okS okP (okS okP (okS okP (okS okP (okS okP (okS (okB (okU k_eq_8)) okP))))))) r_eq
abbrev i_er_8:Shp:={ slots:=[(1,.s (.dat YI)),(5,.s (.own 88 Y38)),(35,.s (.dat Y25)),(36,.s (.dat YI)),(37,.s (.dat YI))],boxes:=[],rows:=[] }
abbrev o_er_8:List (Ex×Shp):=[(.exit 2,{ slots:=[(5,.s (.own 88 Y38))],boxes:=[],rows:=[] })]
def l_er_8 (rec:i_er_8.den→Option (denO o_er_8)) (u:i_er_8.den):Option (denO o_er_8):=
 if (ltI u.1.2.2.2.2.1 u.1.2.2.2.1) then
 if 0≤u.1.2.2.2.2.1 then
 ((u.1.2.2.1)[(u.1.2.2.2.2.1).toNat]?).bind fun y18=>
 if (y18.1==u.1.1) then
 if 0≤y18.2.2.2.1∧y18.2.2.2.1< ((u.1.2.1.length:Nat):Int) then
 ((u.1.2.1)[(y18.2.2.2.1).toNat]?).bind fun y19=>
 let v20:=(u.1.2.1.set (y18.2.2.2.1).toNat (y18.2.2.1,((3:Int),())))
 if (y18.2.1==u.1.1) then
 if 0≤y18.2.2.2.2.1∧y18.2.2.2.2.1< ((v20.length:Nat):Int) then
 ((v20)[(y18.2.2.2.2.1).toNat]?).bind fun y21=>
 let v22:=(v20.set (y18.2.2.2.2.1).toNat (y18.2.2.1,((1:Int),())))
 let v23:=(IntKind.i64.wrap (u.1.2.2.2.2.1+(1:Int)))
 rec ((u.1.1,(v22,(u.1.2.2.1,(u.1.2.2.2.1,(v23,()))))),((),()))
 else none
 else
 let v24:=(IntKind.i64.wrap (u.1.2.2.2.2.1+(1:Int)))
 rec ((u.1.1,(v20,(u.1.2.2.1,(u.1.2.2.2.1,(v24,()))))),((),()))
 else none
 else
 if (y18.2.1==u.1.1) then
 if 0≤y18.2.2.2.2.1∧y18.2.2.2.2.1< ((u.1.2.1.length:Nat):Int) then
 ((u.1.2.1)[(y18.2.2.2.2.1).toNat]?).bind fun y25=>
 let v26:=(u.1.2.1.set (y18.2.2.2.2.1).toNat (y18.2.2.1,((1:Int),())))
 let v27:=(IntKind.i64.wrap (u.1.2.2.2.2.1+(1:Int)))
 rec ((u.1.1,(v26,(u.1.2.2.1,(u.1.2.2.2.1,(v27,()))))),((),()))
 else none
 else
 let v28:=(IntKind.i64.wrap (u.1.2.2.2.2.1+(1:Int)))
 rec ((u.1.1,(u.1.2.1,(u.1.2.2.1,(u.1.2.2.2.1,(v28,()))))),((),()))
 else none
 else
 some (.inl ((u.1.2.1,()),((),())))
def L_er_8 (x:i_er_8.den):Option (denO o_er_8):=Qd l_er_8 lots x
abbrev i_er_3:Shp:={ slots:=[(0,.s (.pd Y28)),(1,.s (.dat YI)),(5,.s (.own 88 Y38)),(19,.s (.dat Y30)),(20,.s (.dat YI)),(21,.s (.dat YI))],boxes:=[],rows:=[] }
def l_er_3 (rec:i_er_3.den→Option (denO o_aj_3)) (u:i_er_3.den):Option (denO o_aj_3):=
 if (ltI u.1.2.2.2.2.2.1 u.1.2.2.2.2.1) then
 if 0≤u.1.2.2.2.2.2.1 then
 ((u.1.2.2.2.1)[(u.1.2.2.2.2.2.1).toNat]?).bind fun y7=>
 if 0≤u.1.2.2.2.2.2.1∧u.1.2.2.2.2.2.1< ((u.1.2.2.1.length:Nat):Int) then
 ((u.1.2.2.1)[(u.1.2.2.2.2.2.1).toNat]?).bind fun y8=>
 let v9:=(u.1.2.2.1.set (u.1.2.2.2.2.2.1).toNat (y7,((7:Int),())))
 let v10:=(IntKind.i64.wrap (u.1.2.2.2.2.2.1+(1:Int)))
 rec ((u.1.1,(u.1.2.1,(v9,(u.1.2.2.2.1,(u.1.2.2.2.2.1,(v10,())))))),((),()))
 else none
 else none
 else
 some (.inl ((u.1.1,(u.1.2.1,(u.1.2.2.1,()))),((),())))
def L_er_3 (x:i_er_3.den):Option (denO o_aj_3):=Qd l_er_3 lots x
def F_er (x:denP P_h):FO P_h R_aj:=
 (F_en ()).bind fun r1=>
 (F_eq ([r1.1.1],(8:Int),())).bind fun r2=>
 if 0≤x.2.1 then
 ((x.1.1)[(x.2.1).toNat]?).bind fun y3=>
 let v4:=((y3.length:Nat):Int)
 (L_er_3 ((x.1,(x.2.1,(r2.1.1,(y3,(v4,((0:Int),())))))),((),()))).bind fun z11=>
 match z11 with
 | .inl x12=>
  let v13:=((x12.1.1.2.1.length:Nat):Int)
  (L_er_8 ((x12.1.2.1,(x12.1.2.2.1,(x12.1.1.2.1,(v13,((0:Int),()))))),((),()))).bind fun z29=>
  match z29 with
  | .inl x30=>
   some ((x30.1.1,()),())
  | .inr z29_=>
   none
 | .inr z11_=>
  none
 else none
abbrev C_er:Con:=⟨P_h,R_aj,F_er,false⟩
abbrev G_er:Env:=[(103,C_eq),(104,C_en)]
theorem g_er:Qf Tryz.prog G_er:=(Qa s_eq (Qa s_en Qc))
abbrev c_er_8:Cut:=⟨i_er_8,o_er_8,fun x=>Qd l_er_8 lots x⟩
theorem k_er_8:Qt Tryz.prog 65 (.loop (nav Tryz.f38 [1,1,1,0,1,0,0])) c_er_8:=
  Qg (L:=[]) hT g_er (fun _ _=>by kernel_rfl) okP _
abbrev c_er_3:Cut:=⟨i_er_3,o_aj_3,fun x=>Qd l_er_3 lots x⟩
theorem k_er_3:Qt Tryz.prog 65 (.loop (nav Tryz.f38 [1,1,0,1,0,0])) c_er_3:=
  Qg (L:=[]) hT g_er (fun _ _=>by kernel_rfl) okP _
theorem r_er (x):QF T G_er [(8,c_er_8),(3,c_er_3)] Tryz.f38 C_er.ps C_er.rs x=C_er.F x:=by kernel_rfl
theorem s_er:Qb Tryz.prog 38 C_er:=fnC (L:=[(8,c_er_8),(3,c_er_3)]) hT g_er Tryz.f38 (okS okP (okS okP (okS (okS okP (okB (okU k_er_3))) (okS (okS okP (okB (okU k_er_8))) okP)))) r_er
def F_es (x:denP P_an):FO P_an R_c:=
 ((x.1.2.2.1)[((9:Int)).toNat]?).bind fun y1=>
 if (y1 !=(0:Int))=true then
 ((x.1.2.2.1)[((9:Int)).toNat]?).bind fun y2=>
 if (leI y2 x.1.2.2.2.2.2.2.1) then
 let v3:=(ior .i64 (0:Int) (1:Int))
 if x.1.2.2.2.2.2.1 then
 let v4:=(ior .i64 v3 (2:Int))
 let v5:=((x.1.2.2.2.2.2.2.2.1.length:Nat):Int)
 if (ltI (0:Int) v5) then
 let v6:=(ior .i64 v4 (4:Int))
 some ((v6,()),())
 else
 some ((v4,()),())
 else
 let v7:=((x.1.2.2.2.2.2.2.2.1.length:Nat):Int)
 if (ltI (0:Int) v7) then
 let v8:=(ior .i64 v3 (4:Int))
 some ((v8,()),())
 else
 some ((v3,()),())
 else
 if x.1.2.2.2.2.2.1 then
 let v9:=(ior .i64 (0:Int) (2:Int))
 let v10:=((x.1.2.2.2.2.2.2.2.1.length:Nat):Int)
 if (ltI (0:Int) v10) then
 let v11:=(ior .i64 v9 (4:Int))
 some ((v11,()),())
 else
 some ((v9,()),())
 else
 let v12:=((x.1.2.2.2.2.2.2.2.1.length:Nat):Int)
 if (ltI (0:Int) v12) then
 let v13:=(ior .i64 (0:Int) (4:Int))
 some ((v13,()),())
 else
 some (((0:Int),()),())
 else
 if x.1.2.2.2.2.2.1 then
 let v14:=(ior .i64 (0:Int) (2:Int))
 let v15:=((x.1.2.2.2.2.2.2.2.1.length:Nat):Int)
 if (ltI (0:Int) v15) then
 let v16:=(ior .i64 v14 (4:Int))
 some ((v16,()),())
 else
 some ((v14,()),())
 else
 let v17:=((x.1.2.2.2.2.2.2.2.1.length:Nat):Int)
 if (ltI (0:Int) v17) then
 let v18:=(ior .i64 (0:Int) (4:Int))
 some ((v18,()),())
 else
 some (((0:Int),()),())
abbrev C_es:Con:=⟨P_an,R_c,F_es,false⟩
theorem s_es:Qb Tryz.prog 186 C_es:=fnC (L:=[]) hT g_a Tryz.f186 okP fun _=>by kernel_rfl
abbrev P_et:List PK:=[.val (.int .u64)]
def tzF (n:Int):Option Int:=if n=1∨n=3∨n=5∨n=7 then some 0 else if n=2∨n=6 then some 1 else if n=4 then some 2 else none
def F_et (x:denP P_et):FO P_et R_c:=match tzF x.1 with | some z=>some ((z,()),()) | none=>none
abbrev C_et:Con:=⟨P_et,R_c,F_et,false⟩
theorem w_et (n:Int) (k:Nat) (z:Int) (hn:(n==0)=false) (w:World) (hr:0≤IntKind.u64.wrap (bits BinOp.and IntKind.u64 n (IntKind.u64.wrap (-n))*285870213051353865) / 288230376151711744∧IntKind.u64.wrap (bits BinOp.and IntKind.u64 n (IntKind.u64.wrap (-n))*285870213051353865) / 288230376151711744< 64)
    (he:(IntKind.u64.wrap (bits BinOp.and IntKind.u64 n (IntKind.u64.wrap (-n))*285870213051353865) / 288230376151711744).toNat=k)
    (h:w.cell? { block:=0,off:=k }=some (.int .u8 z)) (hz:IntKind.i64.wrap z=z):Calls Tryz.prog 226 #[.int .u64 n] w fun e' w'=>e'= .returned (.int .i64 z)∧w'=w:=by
  go_enter Tryz.func226,Tryz.ntmps226
  go_wp2
  all_goals first | (go_ret; exact ⟨rfl,rfl⟩) | exact absurd hr ‹¬_› | simp_all
theorem v_et {n z:Int} (h:tzF n=some z) {M:Nat→Nat→Prop} {w:World} (hl:Laid M w):Calls Tryz.prog 226 #[.int .u64 n] w fun e' w'=>e'= .returned (.int .i64 z)∧w'=w:=by
  have hg: ∀i v,(0,i,v)∈GL→w.cell? { block:=0,off:=i }=some v:=by
    intro i v hm
    obtain ⟨⟨c,e,fz,h1,h2⟩,_⟩:=hl _ hm
    simp only at h1 h2
    simp [World.cell?,h1,h2]
  have g0:=hg 0 (.int .u8 0) (by simp [GL])
  have g1:=hg 1 (.int .u8 1) (by simp [GL])
  have g3:=hg 3 (.int .u8 2) (by simp [GL])
  have key:((n=1∨n=3∨n=5∨n=7)∧z=0)∨((n=2∨n=6)∧z=1)∨(n=4∧z=2):=by
    unfold tzF at h
    split at h
    · exact .inl ⟨‹_›,(Osj h).symm⟩
    · split at h
      · exact .inr (.inl ⟨‹_›,(Osj h).symm⟩)
      · split at h
        · exact .inr (.inr ⟨‹_›,(Osj h).symm⟩)
        · cases h
  clear h
  rcases key with ⟨h | h | h | h,rfl⟩ | ⟨h | h,rfl⟩ | ⟨h,rfl⟩ <;> subst h
  all_goals first
    | exact w_et _ 0 _ (by decide) w (by decide+kernel) (by decide+kernel) g0 (by decide+kernel)
    | exact w_et _ 1 _ (by decide) w (by decide+kernel) (by decide+kernel) g1 (by decide+kernel)
    | exact w_et _ 3 _ (by decide) w (by decide+kernel) (by decide+kernel) g3 (by decide+kernel)
theorem u_et:Qfg Tryz.prog 226 C_et:=by
  intro x y hx w args S Q B M F hp ha _
  obtain ⟨v,vs',rfl,⟨cs,h1,h2⟩,rfl,rfl⟩:=ha
  have e1:v= .int .u64 x.1:=by
    have h1:cs=[v]:=h1
    subst h1
    simpa [Rp] using h2
  subst e1
  have hx:F_et x=some y:=hx
  unfold F_et at hx
  split at hx
  · rename_i z hz
    obtain rfl:=Osj hx
    refine (v_et hz hp.laid).mono fun r w' h=>?_
    obtain ⟨rfl,rfl⟩:=h
    refine ⟨_,rfl,Kept.refl M w',[.int .i64 z],[],[],rfl,⟨_,[],[],[],rfl,rfl,⟨⟨[.int .i64 z],rfl,rfl⟩,rfl⟩,rfl,rfl⟩,⟨_,[],rfl,rfl,rfl⟩,List.nodup_nil,fun b hb=>by cases hb⟩
  · cases hx
theorem s_et:Qb Tryz.prog 226 C_et:=(u_et).ok (Qfo Tryz.func226 (by decide+kernel) (by kernel_rfl))
def F_eu (x:denP P_an):FO P_an R_c:=
 (F_es (x.1,())).bind fun r1=>
 ((x.1.2.2.1)[((7:Int)).toNat]?).bind fun y2=>
 let v3:=(iand .i64 r1.1.1 y2)
 ((x.1.2.2.1)[((0:Int)).toNat]?).bind fun y4=>
 let v5:=((y4).tmod (2:Int))
 if (v5==(0:Int))=false then
 if (v3==(0:Int)) then
 some (((-1:Int),()),())
 else
 let v6:=(IntKind.u64.wrap v3)
 (F_et (v6,())).bind fun r7=>
 some ((r7.1.1,()),())
 else
 some (((-1:Int),()),())
abbrev C_eu:Con:=⟨P_an,R_c,F_eu,false⟩
abbrev G_eu:Env:=[(186,C_es),(226,C_et)]
theorem g_eu:Qf Tryz.prog G_eu:=(Qa s_es (Qa s_et Qc))
theorem s_eu:Qb Tryz.prog 184 C_eu:=fnC (L:=[]) hT g_eu Tryz.f184 okP fun _=>by kernel_rfl
abbrev P_ev:List PK:=[.box [.own 2 YI,.dat YI,.own 2 YI,.dat .bool,.dat .bool,.dat .bool,.dat YI,.own 2 YI,.own 2 YI] [.own 2 YI,.dat YI,.own 2 YI,.dat .bool,.dat .bool,.dat .bool,.dat YI,.own 2 YI,.own 2 YI],.val YI,.val YI]
def F_ev (x:denP P_ev):FO P_ev R_ap:=
 if 0≤(2:Int)∧(2:Int)< ((x.1.2.2.1.length:Nat):Int) then
 ((x.1.2.2.1)[((2:Int)).toNat]?).bind fun y1=>
 let v2:=(x.1.2.2.1.set ((2:Int)).toNat x.1.2.1)
 if 0≤(3:Int)∧(3:Int)< ((v2.length:Nat):Int) then
 ((v2)[((3:Int)).toNat]?).bind fun y3=>
 let v4:=(v2.set ((3:Int)).toNat x.2.1)
 if 0≤(4:Int)∧(4:Int)< ((v4.length:Nat):Int) then
 ((v4)[((4:Int)).toNat]?).bind fun y5=>
 let v6:=(v4.set ((4:Int)).toNat x.2.2.1)
 if 0≤(0:Int)∧(0:Int)< ((v6.length:Nat):Int) then
 ((v6)[((0:Int)).toNat]?).bind fun y7=>
 let v8:=((y7).tmod (2:Int))
 let v9:=(IntKind.i64.wrap (v8*(2:Int)))
 if 0≤(0:Int)∧(0:Int)< ((v6.length:Nat):Int) then
 ((v6)[((0:Int)).toNat]?).bind fun y10=>
 let v11:=(v6.set ((0:Int)).toNat v9)
 if 0≤(1:Int)∧(1:Int)< ((v11.length:Nat):Int) then
 ((v11)[((1:Int)).toNat]?).bind fun y12=>
 some ((),((x.1.1,(y12,(v11,(x.1.2.2.2.1,(false,(x.1.2.2.2.2.2.1,(x.1.2.2.2.2.2.2.1,(x.1.2.2.2.2.2.2.2.1,(x.1.2.2.2.2.2.2.2.2.1,()))))))))),()))
 else none
 else none
 else none
 else none
 else none
 else none
abbrev C_ev:Con:=⟨P_ev,R_ap,F_ev,false⟩
theorem s_ev:Qb Tryz.prog 227 C_ev:=fnC (L:=[]) hT g_a Tryz.f227 okP fun _=>by kernel_rfl
abbrev P_ew:List PK:=[.box [.own 2 YI,.dat YI,.own 2 YI,.dat .bool,.dat .bool,.dat .bool,.dat YI,.own 2 YI,.own 2 YI,.dat Y26,.own 2 YI,.dat YI,.dat YI] [.own 2 YI,.dat YI,.own 2 YI,.dat .bool,.dat .bool,.dat .bool,.dat YI,.own 2 YI,.own 2 YI,.dat Y26,.own 2 YI,.dat YI,.dat YI],.val YI,.val YI]
def F_ew (x:denP P_ew):FO P_ew R_ap:=
 (F_ev ((x.1.1,(x.1.2.1,(x.1.2.2.1,(x.1.2.2.2.1,(x.1.2.2.2.2.1,(x.1.2.2.2.2.2.1,(x.1.2.2.2.2.2.2.1,(x.1.2.2.2.2.2.2.2.1,(x.1.2.2.2.2.2.2.2.2.1,()))))))))),x.2.1,x.2.2.1,())).bind fun r1=>
 some ((),((r1.2.1.1,(r1.2.1.2.1,(r1.2.1.2.2.1,(r1.2.1.2.2.2.1,(r1.2.1.2.2.2.2.1,(r1.2.1.2.2.2.2.2.1,(r1.2.1.2.2.2.2.2.2.1,(r1.2.1.2.2.2.2.2.2.2.1,(r1.2.1.2.2.2.2.2.2.2.2.1,(x.1.2.2.2.2.2.2.2.2.2.1,(x.1.2.2.2.2.2.2.2.2.2.2.1,(x.2.1,(x.1.2.2.2.2.2.2.2.2.2.2.2.2.1,()))))))))))))),()))
abbrev C_ew:Con:=⟨P_ew,R_ap,F_ew,false⟩
abbrev G_ew:Env:=[(227,C_ev)]
theorem g_ew:Qf Tryz.prog G_ew:=(Qa s_ev Qc)
theorem s_ew:Qb Tryz.prog 185 C_ew:=fnC (L:=[]) hT g_ew Tryz.f185 okP fun _=>by kernel_rfl
def F_ex (x:denP P_n):FO P_n R_r:=
 let v1:=(IntKind.i64.wrap ((x.1).tdiv (8:Int)))
 let v2:=((x.1).tmod (8:Int))
 if (v2==(0:Int))=false then
 if (leI (8:Int) v1) then
 (F_en ()).bind fun r3=>
 some ((r3.1.1,()),())
 else
 some (((v1,(v2,())),()),())
 else
 (F_en ()).bind fun r4=>
 some ((r4.1.1,()),())
abbrev C_ex:Con:=⟨P_n,R_r,F_ex,false⟩
abbrev G_ex:Env:=[(104,C_en)]
theorem g_ex:Qf Tryz.prog G_ex:=(Qa s_en Qc)
theorem s_ex:Qb Tryz.prog 265 C_ex:=fnC (L:=[]) hT g_ex Tryz.f265 okP fun _=>by kernel_rfl
abbrev i_ey_7:Shp:={ slots:=[(2,.s (.ptr 2 0)),(3,.s (.own 88 Y38)),(15,.s (.dat Y30)),(16,.s (.dat YI)),(17,.s (.dat YI))],boxes:=[(2,[.dat YI,.own 88 Y38])],rows:=[] }
abbrev o_ey_7:List (Ex×Shp):=[(.exit 0,{ slots:=[(2,.s (.ptr 2 0)),(3,.s (.own 88 Y38))],boxes:=[(2,[.dat YI,.own 88 Y38])],rows:=[] })]
def l_ey_7 (rec:i_ey_7.den→Option (denO o_ey_7)) (u:i_ey_7.den):Option (denO o_ey_7):=
 if (ltI u.1.2.2.2.2.1 u.1.2.2.2.1) then
 if 0≤u.1.2.2.2.2.1 then
 ((u.1.2.2.1)[(u.1.2.2.2.2.1).toNat]?).bind fun y6=>
 (F_ex (y6,())).bind fun r7=>
 if (u.1.2.1.length+[r7.1.1].length)*16≤140737488355328 then
 let v8:=(u.1.2.1++[r7.1.1])
 let v9:=(IntKind.i64.wrap (u.1.2.2.2.2.1+(1:Int)))
 rec (((),(v8,(u.1.2.2.1,(u.1.2.2.2.1,(v9,()))))),((u.2.1.1,()),()))
 else none
 else none
 else
 some (.inl (((),(u.1.2.1,())),((u.2.1.1,()),())))
def L_ey_7 (x:i_ey_7.den):Option (denO o_ey_7):=Qd l_ey_7 lots x
def F_ey (x:denP P_ae):FO P_ae R_at:=
 let v1:=((x.1.length:Nat):Int)
 if (v1 !=(8:Int)) then
 some ((((1:Int),(([]:List (den Y38)),())),()),())
 else
 (F_cx (x.1,())).bind fun r2=>
 if (!r2.1.1) then
 some ((((3:Int),(([]:List (den Y38)),())),()),())
 else
 let v3:=((x.1.length:Nat):Int)
 (L_ey_7 (((),(([]:List (den Y38)),(x.1,(v3,((0:Int),()))))),((((0:Int),(([]:List (den Y38)),())),()),()))).bind fun z10=>
 match z10 with
 | .inl x11=>
  some ((((0:Int),(x11.1.2.1,())),()),())
 | .inr z10_=>
  none
abbrev C_ey:Con:=⟨P_ae,R_at,F_ey,false⟩
abbrev G_ey:Env:=[(107,C_cx),(265,C_ex)]
theorem g_ey:Qf Tryz.prog G_ey:=(Qa s_cx (Qa s_ex Qc))
abbrev c_ey_7:Cut:=⟨i_ey_7,o_ey_7,fun x=>Qd l_ey_7 lots x⟩
theorem k_ey_7:Qt Tryz.prog 29 (.loop (nav Tryz.f253 [1,1,1,1,0,1,0,0])) c_ey_7:=
  Qg (L:=[]) hT g_ey (fun _ _=>by kernel_rfl) okP _
theorem r_ey (x):QF T G_ey [(7,c_ey_7)] Tryz.f253 C_ey.ps C_ey.rs x=C_ey.F x:=by kernel_rfl
theorem s_ey:Qb Tryz.prog 253 C_ey:=fnC (L:=[(7,c_ey_7)]) hT g_ey Tryz.f253 (okS okP (okS okP (okS okP (okS okP (okS (okS okP (okB (okU k_ey_7))) okP))))) r_ey
abbrev P_ez:List PK:=[.ptr Y45,.val Y26,.val Y30]
abbrev i_ez_5:Shp:={ slots:=[(6,.s (.ptr 6 0)),(8,.s (.own 88 Y38)),(20,.s (.dat YI))],boxes:=[(6,[.dat YI,.own 88 Y38])],rows:=[] }
abbrev o_ez_5:List (Ex×Shp):=[(.exit 0,{ slots:=[(6,.s (.ptr 6 0)),(8,.s (.own 88 Y38))],boxes:=[(6,[.dat YI,.own 88 Y38])],rows:=[] })]
def l_ez_5 (rec:i_ez_5.den→Option (denO o_ez_5)) (u:i_ez_5.den):Option (denO o_ez_5):=
 if (ltI u.1.2.2.1 (8:Int)) then
 if (u.1.2.1.length+[(u.1.2.2.1,((7:Int),()))].length)*16≤140737488355328 then
 let v3:=(u.1.2.1++[(u.1.2.2.1,((7:Int),()))])
 let v4:=(IntKind.i64.wrap (u.1.2.2.1+(1:Int)))
 rec (((),(v3,(v4,()))),((u.2.1.1,()),()))
 else none
 else
 some (.inl (((),(u.1.2.1,())),((u.2.1.1,()),())))
def L_ez_5 (x:i_ez_5.den):Option (denO o_ez_5):=Qd l_ez_5 lots x
def F_ez (x:denP P_ez):FO P_ez R_at:=
 ((x.1.2.2.1)[((10:Int)).toNat]?).bind fun y1=>
 let v2:=(IntKind.i64.wrap (y1-(1:Int)))
 if (ltI v2 (0:Int)) then
 (L_ez_5 (((),(([]:List (den Y38)),((0:Int),()))),((((0:Int),(([]:List (den Y38)),())),()),()))).bind fun z5=>
 match z5 with
 | .inl x6=>
  some ((((0:Int),(x6.1.2.1,())),()),())
 | .inr z5_=>
  none
 else
 if 0≤v2 then
 ((x.2.1)[(v2).toNat]?).bind fun y7=>
 if (ltI y7.1 (0:Int))=false then
 if 0≤v2 then
 ((x.2.1)[(v2).toNat]?).bind fun y8=>
 let v9:=(iand .i64 y8.2.1 (1:Int))
 if (v9==(0:Int))=false then
 if (v2==(7:Int)) then
 some ((((7:Int),(([]:List (den Y38)),())),()),())
 else
 if 0≤v2 then
 ((x.2.1)[(v2).toNat]?).bind fun y10=>
 (F_ea (x.2.2.1,y10.1,())).bind fun r11=>
 (F_ey (r11.1.1,())).bind fun r12=>
 some ((r12.1.1,()),())
 else none
 else
 some ((((7:Int),(([]:List (den Y38)),())),()),())
 else none
 else
 some ((((7:Int),(([]:List (den Y38)),())),()),())
 else none
abbrev C_ez:Con:=⟨P_ez,R_at,F_ez,false⟩
abbrev G_ez:Env:=[(43,C_ea),(253,C_ey)]
theorem g_ez:Qf Tryz.prog G_ez:=(Qa s_ea (Qa s_ey Qc))
abbrev c_ez_5:Cut:=⟨i_ez_5,o_ez_5,fun x=>Qd l_ez_5 lots x⟩
theorem k_ez_5:Qt Tryz.prog 59 (.loop (nav Tryz.f228 [1,1,0,1,0,1,0,1,0,0])) c_ez_5:=
  Qg (L:=[]) hT g_ez (fun _ _=>by kernel_rfl) okP _
theorem r_ez (x):QF T G_ez [(5,c_ez_5)] Tryz.f228 C_ez.ps C_ez.rs x=C_ez.F x:=by kernel_rfl
theorem s_ez:Qb Tryz.prog 228 C_ez:=fnC (L:=[(5,c_ez_5)]) hT g_ez Tryz.f228 (okS okP (okS okP (okS (okS okP (okI (okS okP (okS (okS okP (okB (okU k_ez_5))) okP)) okP)) okP))) r_ez
def F_fa (x:denP P_n):FO P_n R_a:=
 (F_cd (x.1,(0:Int),(63:Int),())).bind fun r1=>
 some ((r1.1.1,()),())
abbrev C_fa:Con:=⟨P_n,R_a,F_fa,false⟩
theorem g_fa:Qf Tryz.prog G_ce:=(Qa s_cd Qc)
theorem s_fa:Qb Tryz.prog 254 C_fa:=fnC (L:=[]) hT g_fa Tryz.f254 okP fun _=>by kernel_rfl
def F_fb (x:denP P_n):FO P_n R_c:=
 if (x.1==(1:Int)) then
 some (((7:Int),()),())
 else
 if (x.1==(2:Int)) then
 some (((8:Int),()),())
 else
 if (x.1==(4:Int)) then
 some (((9:Int),()),())
 else
 some (((0:Int),()),())
abbrev C_fb:Con:=⟨P_n,R_c,F_fb,false⟩
theorem s_fb:Qb Tryz.prog 255 C_fb:=fnC (L:=[]) hT g_a Tryz.f255 okP fun _=>by kernel_rfl
def F_fc (x:denP P_ar):FO P_ar R_r:=
 (F_fa (x.2.1,())).bind fun r1=>
 if (!r1.1.1)=false then
 let v2:=(IntKind.i64.wrap ((x.2.1).tdiv (8:Int)))
 if 0≤v2 then
 ((x.1)[(v2).toNat]?).bind fun y3=>
 if (ltI y3.1 (0:Int))=false then
 let v4:=(IntKind.i64.wrap ((x.2.1).tdiv (8:Int)))
 if 0≤v4 then
 ((x.1)[(v4).toNat]?).bind fun y5=>
 let v6:=(iand .i64 y5.2.1 x.2.2.1)
 if (v6==(0:Int)) then
 (F_fb (x.2.2.1,())).bind fun r7=>
 some (((r7.1.1,((0:Int),())),()),())
 else
 let v8:=(IntKind.i64.wrap ((x.2.1).tdiv (8:Int)))
 if 0≤v8 then
 ((x.1)[(v8).toNat]?).bind fun y9=>
 let v10:=(IntKind.i64.wrap (y9.1*(8:Int)))
 let v11:=((x.2.1).tmod (8:Int))
 let v12:=(IntKind.i64.wrap (v10+v11))
 some ((((0:Int),(v12,())),()),())
 else none
 else none
 else
 (F_fb (x.2.2.1,())).bind fun r13=>
 some (((r13.1.1,((0:Int),())),()),())
 else none
 else
 (F_fb (x.2.2.1,())).bind fun r14=>
 some (((r14.1.1,((0:Int),())),()),())
abbrev C_fc:Con:=⟨P_ar,R_r,F_fc,false⟩
abbrev G_fc:Env:=[(254,C_fa),(255,C_fb)]
theorem g_fc:Qf Tryz.prog G_fc:=(Qa s_fa (Qa s_fb Qc))
theorem s_fc:Qb Tryz.prog 229 C_fc:=fnC (L:=[]) hT g_fc Tryz.f229 okP fun _=>by kernel_rfl
abbrev P_fd:List PK:=[.ptr Y45,.val Y26,.val Y30,.val YI,.val YI]
def F_fd (x:denP P_fd):FO P_fd R_r:=
 (F_ez (x.1,x.2.1,x.2.2.1,())).bind fun r1=>
 if (r1.1.1.1 !=(0:Int)) then
 some (((r1.1.1.1,((0:Int),())),()),())
 else
 (F_fc (r1.1.1.2.1,x.2.2.2.1,x.2.2.2.2.1,())).bind fun r2=>
 if (r2.1.1.1 !=(0:Int)) then
 some ((r2.1.1,()),())
 else
 let v3:=(IntKind.i64.wrap ((r2.1.1.2.1).tdiv (8:Int)))
 if (v3 !=(7:Int)) then
 (F_fc (x.2.1,r2.1.1.2.1,x.2.2.2.2.1,())).bind fun r4=>
 some ((r4.1.1,()),())
 else
 if (x.2.2.2.2.1==(4:Int)) then
 some ((((9:Int),((0:Int),())),()),())
 else
 let v5:=((r2.1.1.2.1).tmod (8:Int))
 let v6:=(IntKind.i64.wrap ((1000:Int)+v5))
 some ((((0:Int),(v6,())),()),())
abbrev C_fd:Con:=⟨P_fd,R_r,F_fd,false⟩
abbrev G_fd:Env:=[(228,C_ez),(229,C_fc)]
theorem g_fd:Qf Tryz.prog G_fd:=(Qa s_ez (Qa s_fc Qc))
theorem s_fd:Qb Tryz.prog 187 C_fd:=fnC (L:=[]) hT g_fd Tryz.f187 okP fun _=>by kernel_rfl
def F_fe (x:denP P_q):FO P_q R_c:=
 (F_cd (x.1.1,(1:Int),(26:Int),())).bind fun r1=>
 if (!r1.1.1)=false then
 (F_cd (x.1.2.1,(0:Int),(15:Int),())).bind fun r2=>
 if (!r2.1.1)=false then
 (F_cd (x.1.2.2.1,(0:Int),(15:Int),())).bind fun r3=>
 if (!r3.1.1)=false then
 (F_cd (x.1.2.2.2.1,(0:Int),(65535:Int),())).bind fun r4=>
 if (!r4.1.1) then
 some (((3:Int),()),())
 else
 if (leI x.1.1 (11:Int)) then
 if (ltI (15:Int) x.1.2.2.2.1) then
 some (((1:Int),()),())
 else
 some (((0:Int),()),())
 else
 if (x.1.1==(13:Int)) then
 if (x.1.2.2.1 !=(0:Int)) then
 some (((1:Int),()),())
 else
 some (((0:Int),()),())
 else
 if (x.1.1==(19:Int)) then
 if (x.1.2.2.1 !=(0:Int)) then
 some (((1:Int),()),())
 else
 some (((0:Int),()),())
 else
 if (x.1.1==(21:Int)) then
 if (ltI (10:Int) x.1.2.2.2.1)=false then
 if (x.1.2.2.1 !=(0:Int)) then
 some (((1:Int),()),())
 else
 some (((0:Int),()),())
 else
 some (((1:Int),()),())
 else
 if (x.1.1==(22:Int)) then
 if (ltI (10:Int) x.1.2.2.2.1)=false then
 if (x.1.2.1 !=(0:Int)) then
 some (((1:Int),()),())
 else
 some (((0:Int),()),())
 else
 some (((1:Int),()),())
 else
 if (leI (23:Int) x.1.1) then
 if (x.1.2.1 !=(0:Int))=false then
 if (x.1.2.2.1 !=(0:Int))=false then
 if (x.1.2.2.2.1 !=(0:Int)) then
 some (((1:Int),()),())
 else
 some (((0:Int),()),())
 else
 some (((1:Int),()),())
 else
 some (((1:Int),()),())
 else
 some (((0:Int),()),())
 else
 some (((3:Int),()),())
 else
 some (((3:Int),()),())
 else
 some (((3:Int),()),())
abbrev C_fe:Con:=⟨P_q,R_c,F_fe,false⟩
theorem g_fe:Qf Tryz.prog G_ce:=(Qa s_cd Qc)
theorem s_fe:Qb Tryz.prog 230 C_fe:=fnC (L:=[]) hT g_fe Tryz.f230 okP fun _=>by kernel_rfl
abbrev R_ff:List VK:=[.s (.dat Y223)]
def F_ff (x:denP P_n):FO P_n R_ff:=
 let v1:=((x.1).fdiv (2 ^ 24))
 let v2:=((x.1).fdiv (2 ^ 20))
 let v3:=(iand .i64 v2 (15:Int))
 let v4:=((x.1).fdiv (2 ^ 16))
 let v5:=(iand .i64 v4 (15:Int))
 let v6:=(iand .i64 x.1 (65535:Int))
 (F_fe ((v1,(v3,(v5,(v6,())))),())).bind fun r7=>
 if (r7.1.1 !=(0:Int)) then
 some ((((5:Int),(((0:Int),((0:Int),((0:Int),((0:Int),())))),())),()),())
 else
 some ((((0:Int),((v1,(v3,(v5,(v6,())))),())),()),())
abbrev C_ff:Con:=⟨P_n,R_ff,F_ff,false⟩
abbrev G_ff:Env:=[(230,C_fe)]
theorem g_ff:Qf Tryz.prog G_ff:=(Qa s_fe Qc)
theorem s_ff:Qb Tryz.prog 188 C_ff:=fnC (L:=[]) hT g_ff Tryz.f188 okP fun _=>by kernel_rfl
def F_fg (x:denP P_n):FO P_n R_c:=
 let v1:=(iand .i64 x.1 (4294967295:Int))
 some ((v1,()),())
abbrev C_fg:Con:=⟨P_n,R_c,F_fg,false⟩
theorem s_fg:Qb Tryz.prog 256 C_fg:=fnC (L:=[]) hT g_a Tryz.f256 okP fun _=>by kernel_rfl
def F_fh (x:denP P_ay):FO P_ay R_c:=
 (F_fg (x.1,())).bind fun r1=>
 (F_fg (x.2.1,())).bind fun r2=>
 let v3:=(IntKind.i64.wrap (r1.1.1+r2.1.1))
 (F_fg (v3,())).bind fun r4=>
 some ((r4.1.1,()),())
abbrev C_fh:Con:=⟨P_ay,R_c,F_fh,false⟩
abbrev G_fh:Env:=[(256,C_fg)]
theorem g_fh:Qf Tryz.prog G_fh:=(Qa s_fg Qc)
theorem s_fh:Qb Tryz.prog 231 C_fh:=fnC (L:=[]) hT g_fh Tryz.f231 okP fun _=>by kernel_rfl
def F_fi (x:denP P_n):FO P_n R_c:=
 let v1:=(iand .i64 x.1 (65535:Int))
 if (leI (32768:Int) v1) then
 let v2:=(IntKind.i64.wrap (v1-(65536:Int)))
 some ((v2,()),())
 else
 some ((v1,()),())
abbrev C_fi:Con:=⟨P_n,R_c,F_fi,false⟩
theorem s_fi:Qb Tryz.prog 232 C_fi:=fnC (L:=[]) hT g_a Tryz.f232 okP fun _=>by kernel_rfl
abbrev P_fj:List PK:=[.box [.own 2 YI,.dat YI,.own 2 YI,.dat .bool,.dat .bool,.dat .bool,.dat YI,.own 2 YI,.own 2 YI] [.own 2 YI,.dat YI,.own 2 YI,.dat .bool,.dat .bool,.dat .bool,.dat YI,.own 2 YI,.own 2 YI],.val YI]
def F_fj (x:denP P_fj):FO P_fj R_c:=
 if (x.2.1==(1:Int)) then
 let v1:=((x.1.2.2.2.2.2.2.2.1.length:Nat):Int)
 if (ltI (0:Int) v1) then
 if 0≤(0:Int)∧(0:Int)< ((x.1.2.2.2.2.2.2.2.1.length:Nat):Int) then
 ((x.1.2.2.2.2.2.2.2.1)[((0:Int)).toNat]?).bind fun y2=>
 if 0≤(1:Int)∧(1:Int)≤((x.1.2.2.2.2.2.2.2.1.length:Nat):Int)∧((x.1.2.2.2.2.2.2.2.1.length:Nat):Int)≤((x.1.2.2.2.2.2.2.2.1.length:Nat):Int) then
 (F_dh (((x.1.2.2.2.2.2.2.2.1.drop (0+((1:Int)).toNat)).take ((((x.1.2.2.2.2.2.2.2.1.length:Nat):Int)).toNat-((1:Int)).toNat)),())).bind fun r3=>
 some ((y2,()),((x.1.1,(x.1.2.1,(x.1.2.2.1,(x.1.2.2.2.1,(x.1.2.2.2.2.1,(x.1.2.2.2.2.2.1,(x.1.2.2.2.2.2.2.1,(r3.1.1,(x.1.2.2.2.2.2.2.2.2.1,()))))))))),()))
 else none
 else none
 else
 some (((0:Int),()),(x.1,()))
 else
 if (x.2.1==(2:Int)) then
 some ((x.1.2.2.2.2.2.2.1,()),(x.1,()))
 else
 if (x.2.1==(3:Int)) then
 if 0≤(9:Int)∧(9:Int)< ((x.1.2.2.1.length:Nat):Int) then
 ((x.1.2.2.1)[((9:Int)).toNat]?).bind fun y4=>
 some ((y4,()),(x.1,()))
 else none
 else
 if (x.2.1==(4:Int)) then
 (F_es (x.1,())).bind fun r5=>
 some ((r5.1.1,()),(x.1,()))
 else
 if (x.2.1==(6:Int)) then
 let v6:=((x.1.2.2.2.2.2.2.2.1.length:Nat):Int)
 some ((v6,()),(x.1,()))
 else
 some (((0:Int),()),(x.1,()))
abbrev C_fj:Con:=⟨P_fj,R_c,F_fj,false⟩
abbrev G_fj:Env:=[(87,C_dh),(186,C_es)]
theorem g_fj:Qf Tryz.prog G_fj:=(Qa s_dh (Qa s_es Qc))
theorem s_fj:Qb Tryz.prog 257 C_fj:=fnC (L:=[]) hT g_fj Tryz.f257 okP fun _=>by kernel_rfl
end Go.Proofs.YtkkljegcnnfanaaGreatDoor
