/- The functions of the laws, each as a plain function of data (F), and that the program's text does what F says. Printed by a program (wip/tools/gen.py). -/
import Derived.Test.YtkkljegcnnfanaaGreatDoorGa4
set_option linter.unusedVariables false
set_option linter.unusedSimpArgs false
namespace Go.Proofs.YtkkljegcnnfanaaGreatDoor
open Go Go.RowKit S Go.Proofs
set_option maxRecDepth 100000
abbrev P_hd:List PK:=[.val Y28,.val YI]
def F_hd (x:denP P_hd):FO P_hd R_c:=
 (F_cu (x.1,())).bind fun r1=>
 if (r1.1.1==(0:Int))=true then
 (F_cc (x.2.1,(0:Int),(1000000:Int),())).bind fun r2=>
 if (!r2.1.1) then
 some (((3:Int),()),())
 else
 some ((r1.1.1,()),())
 else
 some ((r1.1.1,()),())
abbrev C_hd:Con:=⟨P_hd,R_c,F_hd,false⟩
theorem s_hd:Bc 79 C_hd:=fnE (Qa s_cu (Qa s_cc Qc)) Tryz.f79
abbrev P_he:List PK:=[.val Y28,.val YI,.val YI]
abbrev i_he_9:Shp:={ slots:=[(2,.s (.dat YI)),(6,.s (.ptr 6 0)),(9,.s (.dat YI)),(10,.s (.dat YI)),(35,.s (.dat Y26)),(36,.s (.dat YI)),(37,.s (.dat YI))],boxes:=[(6,[.dat YI,.dat YI])],rows:=[] }
abbrev o_he_9:List (Ex×Shp):=[(.exit 0,{ slots:=[(6,.s (.ptr 6 0)),(9,.s (.dat YI))],boxes:=[(6,[.dat YI,.dat YI])],rows:=[] })]
def l_he_9 (rec:i_he_9.den→Option (denO o_he_9)) (u:i_he_9.den):Option (denO o_he_9):=
 if (ltI u.1.2.2.2.2.2.2.1 u.1.2.2.2.2.2.1) then
 if 0≤u.1.2.2.2.2.2.2.1 then
 ((u.1.2.2.2.2.1)[(u.1.2.2.2.2.2.2.1).toNat]?).bind fun y10=>
 if (y10.1==u.1.1) then
 let v11:=(if y10.2.1< u.1.2.2.2.1 then y10.2.1 else u.1.2.2.2.1)
 let v12:=(IntKind.i64.wrap (u.1.2.2.1+v11))
 let v13:=(if y10.2.1< u.1.2.2.2.1 then y10.2.1 else u.1.2.2.2.1)
 let v14:=(IntKind.i64.wrap (u.1.2.2.2.1-v13))
 let v15:=(IntKind.i64.wrap (u.1.2.2.2.2.2.2.1+(1:Int)))
 rec ((u.1.1,((),(v12,(v14,(u.1.2.2.2.2.1,(u.1.2.2.2.2.2.1,(v15,()))))))),((u.2.1.1,()),()))
 else
 let v16:=(if y10.2.1< u.1.2.2.2.1 then y10.2.1 else u.1.2.2.2.1)
 let v17:=(IntKind.i64.wrap (u.1.2.2.2.1-v16))
 let v18:=(IntKind.i64.wrap (u.1.2.2.2.2.2.2.1+(1:Int)))
 rec ((u.1.1,((),(u.1.2.2.1,(v17,(u.1.2.2.2.2.1,(u.1.2.2.2.2.2.1,(v18,()))))))),((u.2.1.1,()),()))
 else none
 else
 some (.inl (((),(u.1.2.2.1,())),((u.2.1.1,()),())))
def L_he_9 (x:i_he_9.den):Option (denO o_he_9):=Qb l_he_9 lots x
def F_he (x:denP P_he):FO P_he R_r:=
 (F_hd (x.1,x.2.1,())).bind fun r1=>
 if (r1.1.1 !=(0:Int)) then
 some (((r1.1.1,((0:Int),())),()),())
 else
 (F_ce (x.1,x.2.2.1,())).bind fun r2=>
 if (!r2.1.1) then
 some ((((4:Int),((0:Int),())),()),())
 else
 (F_dd (x.1,(-1:Int),())).bind fun r3=>
 if r3.1.1=0 then none else
 let v4:=(IntKind.i64.wrap ((x.2.1).tdiv r3.1.1))
 (F_dd (x.1,x.2.2.1,())).bind fun r5=>
 let v6:=(IntKind.i64.wrap (v4*r5.1.1))
 if r3.1.1=0 then none else
 let v7:=((x.2.1).tmod r3.1.1)
 let v8:=((x.1.2.2.2.1.length:Nat):Int)
 (L_he_9 ((x.2.2.1,((),(v6,(v7,(x.1.2.2.2.1,(v8,((0:Int),()))))))),((((0:Int),((0:Int),())),()),()))).bind fun z19=>
 match z19 with
 | .inl x20=>
  some ((((0:Int),(x20.1.2.1,())),()),())
 | .inr z19_=>
  none
abbrev C_he:Con:=⟨P_he,R_r,F_he,false⟩
abbrev G_he:Env:=[(44,C_ce),(79,C_hd),(80,C_dd)]
theorem g_he:Be G_he:=(Qa s_ce (Qa s_hd (Qa s_dd Qc)))
abbrev c_he_9:Cut:=⟨i_he_9,o_he_9,fun x=>Qb l_he_9 lots x⟩
theorem k_he_9:Bu 60 (.loop (nav Tryz.f29 [1,1,1,1,1,0,1,0,0])) c_he_9:=
  Qd (L:=[]) hT g_he (fun _ _=>by kernel_rfl) okP _
theorem r_he (x):QA T G_he [(9,c_he_9)] Tryz.f29 C_he.ps C_he.rs x=C_he.F x:=by kernel_rfl
theorem s_he:Bc 29 C_he:=fnC (L:=[(9,c_he_9)]) hT g_he Tryz.f29 (okS okP (okS okP (okS okP (okS okP (okS okP (okS (okS okP (okB (okU k_he_9))) okP)))))) r_he
abbrev i_hf_13:Shp:={ slots:=[(3,.s (.ptr 3 0)),(4,.s (.dat YI)),(5,.s (.ptr 5 0)),(6,.s (.ptr 6 0)),(7,.s (.ptr 7 0)),(8,.s (.dat YI)),(9,.s (.dat YI))],boxes:=[(3,[.dat Y24,.dat Y25,.dat Y26,.dat Y26,.dat Y30,.dat Y31,.dat YI,.dat YI,.dat YI]),(5,[.dat YI,.own 2 YI,.dat YI,.own 2 YI,.dat .bool,.dat .bool,.dat .bool,.dat YI,.own 2 YI,.own 2 YI,.own 88 Y38,.own 2 YI]),(6,[.dat YI,.dat YI,.dat .bool]),(7,[.dat YI,.own 2 YI])],rows:=[] }
abbrev o_hf_13:List (Ex×Shp):=[(.exit 0,{ slots:=[(3,.s (.ptr 3 0)),(4,.s (.dat YI)),(5,.s (.ptr 5 0)),(6,.s (.ptr 6 0)),(8,.s (.dat YI))],boxes:=[(3,[.dat Y24,.dat Y25,.dat Y26,.dat Y26,.dat Y30,.dat Y31,.dat YI,.dat YI,.dat YI]),(5,[.dat YI,.own 2 YI,.dat YI,.own 2 YI,.dat .bool,.dat .bool,.dat .bool,.dat YI,.own 2 YI,.own 2 YI,.own 88 Y38,.own 2 YI]),(6,[.dat YI,.dat YI,.dat .bool])],rows:=[] })]
def l_hf_13 (rec:i_hf_13.den→Option (denO o_hf_13)) (u:i_hf_13.den):Option (denO o_hf_13):=
 let v9:=((u.2.1.2.2.2.1.2.1.length:Nat):Int)
 if (ltI u.1.2.2.2.2.2.2.1 v9) then
 if 0≤u.1.2.2.2.2.2.2.1∧u.1.2.2.2.2.2.2.1< ((u.2.1.2.2.2.1.2.1.length:Nat):Int) then
 ((u.2.1.2.2.2.1.2.1)[(u.1.2.2.2.2.2.2.1).toNat]?).bind fun y10=>
 if (y10==u.1.2.1) then
 let v11:=(IntKind.i64.wrap (u.1.2.2.2.2.2.1+(1:Int)))
 let v12:=(IntKind.i64.wrap (u.1.2.2.2.2.2.2.1+(1:Int)))
 rec (((),(u.1.2.1,((),((),((),(v11,(v12,()))))))),((u.2.1.1,(u.2.1.2.1,(u.2.1.2.2.1,(u.2.1.2.2.2.1,())))),()))
 else
 let v13:=(IntKind.i64.wrap (u.1.2.2.2.2.2.2.1+(1:Int)))
 rec (((),(u.1.2.1,((),((),((),(u.1.2.2.2.2.2.1,(v13,()))))))),((u.2.1.1,(u.2.1.2.1,(u.2.1.2.2.1,(u.2.1.2.2.2.1,())))),()))
 else none
 else
 some (.inl (((),(u.1.2.1,((),((),(u.1.2.2.2.2.2.1,()))))),((u.2.1.1,(u.2.1.2.1,(u.2.1.2.2.1,()))),())))
def L_hf_13 (x:i_hf_13.den):Option (denO o_hf_13):=Qb l_hf_13 lots x
def F_hf (x:denP P_a):FO P_a R_a:=
 (F_a (x.1,())).bind fun r1=>
 if r1.1.1 then
 some ((true,()),())
 else
 (F_cb (x.1,())).bind fun r2=>
 (F_dp (r2.1.1,r2.1.2.1,())).bind fun r3=>
 if (r3.1.1.1 !=(0:Int)) then
 (F_dz (r2.1.1,r2.1.2.1,())).bind fun r4=>
 some (((r4.1.1.1==r3.1.1.1),()),())
 else
 (F_gl (r2.1.1,((r3.1.1.2.1,(r3.1.1.2.2.1,(r3.1.1.2.2.2.1,(r3.1.1.2.2.2.2.1,(r3.1.1.2.2.2.2.2.1,(r3.1.1.2.2.2.2.2.2.1,(r3.1.1.2.2.2.2.2.2.2.1,(r3.1.1.2.2.2.2.2.2.2.2.1,(r3.1.1.2.2.2.2.2.2.2.2.2.1,()))))))))),(r3.1.1.2.2.2.2.2.2.2.2.2.2.1,(r3.1.1.2.2.2.2.2.2.2.2.2.2.2.1,()))),r2.1.2.1,(30:Int),())).bind fun r5=>
 if (r5.1.1.1 !=(0:Int)) then
 (F_hb (r2.1.1,((r3.1.1.2.1,(r3.1.1.2.2.1,(r3.1.1.2.2.2.1,(r3.1.1.2.2.2.2.1,(r3.1.1.2.2.2.2.2.1,(r3.1.1.2.2.2.2.2.2.1,(r3.1.1.2.2.2.2.2.2.2.1,(r3.1.1.2.2.2.2.2.2.2.2.1,(r3.1.1.2.2.2.2.2.2.2.2.2.1,()))))))))),(r3.1.1.2.2.2.2.2.2.2.2.2.2.1,(r3.1.1.2.2.2.2.2.2.2.2.2.2.2.1,()))),r2.1.2.1,(30:Int),())).bind fun r6=>
 some (((r6.1.1.1==r5.1.1.1),()),())
 else
 (F_hc (r2.1.1,(30:Int),())).bind fun r7=>
 (L_hf_13 (((),(r2.1.2.1,((),((),((),((0:Int),((0:Int),()))))))),(((r2.1.1.1.1,(r2.1.1.1.2.1,(r2.1.1.1.2.2.1,(r2.1.1.1.2.2.2.1,(r2.1.1.2.1,(r2.1.1.2.2.1,(r2.1.1.2.2.2.1,(r2.1.1.2.2.2.2.1,(r2.1.1.2.2.2.2.2.1,()))))))))),(r3.1.1,((r5.1.1.1,(r5.1.1.2.1,(r5.1.1.2.2.1,()))),(r7.1.1,())))),()))).bind fun z14=>
 match z14 with
 | .inl x15=>
  if x15.2.1.2.2.1.2.2.1=true then
  (F_ec (((x15.2.1.2.1.2.1,(x15.2.1.2.1.2.2.1,(x15.2.1.2.1.2.2.2.1,(x15.2.1.2.1.2.2.2.2.1,(x15.2.1.2.1.2.2.2.2.2.1,(x15.2.1.2.1.2.2.2.2.2.2.1,(x15.2.1.2.1.2.2.2.2.2.2.2.1,(x15.2.1.2.1.2.2.2.2.2.2.2.2.1,(x15.2.1.2.1.2.2.2.2.2.2.2.2.2.1,()))))))))),(x15.2.1.2.1.2.2.2.2.2.2.2.2.2.2.1,(x15.2.1.2.1.2.2.2.2.2.2.2.2.2.2.2.1,()))),())).bind fun r16=>
  if (r16.1.1==(0:Int))=true then
  let v17:=(IntKind.i64.wrap (x15.2.1.1.2.2.2.2.2.2.2.2.1+(30:Int)))
  (F_he ((x15.2.1.1.1,(x15.2.1.1.2.1,(x15.2.1.1.2.2.1,(x15.2.1.1.2.2.2.1,())))),v17,x15.1.2.1,())).bind fun r18=>
  (F_he ((x15.2.1.1.1,(x15.2.1.1.2.1,(x15.2.1.1.2.2.1,(x15.2.1.1.2.2.2.1,())))),x15.2.1.1.2.2.2.2.2.2.2.2.1,x15.1.2.1,())).bind fun r19=>
  let v20:=(IntKind.i64.wrap (r18.1.1.2.1-r19.1.1.2.1))
  some (((x15.1.2.2.2.2.1==v20),()),())
  else
  some ((false,()),())
  else
  some ((false,()),())
 | .inr z14_=>
  none
abbrev C_hf:Con:=⟨P_a,R_a,F_hf,false⟩
abbrev G_hf:Env:=[(6,C_a),(22,C_cb),(23,C_dp),(24,C_dz),(25,C_gl),(26,C_hb),(27,C_hc),(28,C_ec),(29,C_he)]
theorem g_hf:Be G_hf:=(Qa s_a (Qa s_cb (Qa s_dp (Qa s_dz (Qa s_gl (Qa s_hb (Qa s_hc (Qa s_ec (Qa s_he Qc)))))))))
abbrev c_hf_13:Cut:=⟨i_hf_13,o_hf_13,fun x=>Qb l_hf_13 lots x⟩
theorem k_hf_13:Bu 93 (.loop (nav Tryz.f5 [1,1,1,1,1,1,1,1,1,0,1,0,0])) c_hf_13:=
  Qd (L:=[]) hT g_hf (fun _ _=>by kernel_rfl) okP _
theorem r_hf (x):QA T G_hf [(13,c_hf_13)] Tryz.f5 C_hf.ps C_hf.rs x=C_hf.F x:=by kernel_rfl
theorem s_hf:Bc 5 C_hf:=fnC (L:=[(13,c_hf_13)]) hT g_hf Tryz.f5 (okS okP (okS okP (okS okP (okS okP (okS okP (okS okP (okS okP (okS okP (okS okP (okS (okS okP (okB (okU k_hf_13))) okP)))))))))) r_hf
theorem q_hf:Qfx Tryz.prog 5 C_hf:=
  Qxo (L:=[(13,c_hf_13)]) hT g_hf Tryz.f5 (by kernel_rfl) (by kernel_rfl) (okS okP (okS okP (okS okP (okS okP (okS okP (okS okP (okS okP (okS okP (okS okP (okS (okS okP (okB (okU k_hf_13))) okP)))))))))) r_hf
end Go.Proofs.YtkkljegcnnfanaaGreatDoor
