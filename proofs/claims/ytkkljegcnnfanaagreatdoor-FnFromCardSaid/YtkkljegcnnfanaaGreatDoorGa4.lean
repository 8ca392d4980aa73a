/- The functions of the laws, each as a plain function of data (F), and that the program's text does what F says. Printed by a program (wip/tools/gen.py). -/
import Derived.Test.YtkkljegcnnfanaaGreatDoorGa3
set_option linter.unusedVariables false
set_option linter.unusedSimpArgs false
namespace Go.Proofs.YtkkljegcnnfanaaGreatDoor
open Go Go.RowKit S Go.Proofs
set_option maxRecDepth 100000
def F_fe (x:denP P_n):FO P_n R_r:=
 let v1:=(IntKind.i64.wrap ((x.1).tdiv (8:Int)))
 let v2:=((x.1).tmod (8:Int))
 if (v2==(0:Int))=false then
 if (leI (8:Int) v1) then
 (F_dg ()).bind fun r3=>
 some ((r3.1.1,()),())
 else
 some (((v1,(v2,())),()),())
 else
 (F_dg ()).bind fun r4=>
 some ((r4.1.1,()),())
abbrev C_fe:Con:=⟨P_n,R_r,F_fe,false⟩
theorem s_fe:Bc 265 C_fe:=fnE (Qa s_dg Qc) Tryz.f265
abbrev i_ff_7:Shp:={ slots:=[(2,.s (.ptr 2 0)),(3,.s (.own 88 Y38)),(15,.s (.dat Y30)),(16,.s (.dat YI)),(17,.s (.dat YI))],boxes:=[(2,[.dat YI,.own 88 Y38])],rows:=[] }
abbrev o_ff_7:List (Ex×Shp):=[(.exit 0,{ slots:=[(2,.s (.ptr 2 0)),(3,.s (.own 88 Y38))],boxes:=[(2,[.dat YI,.own 88 Y38])],rows:=[] })]
def l_ff_7 (rec:i_ff_7.den→Option (denO o_ff_7)) (u:i_ff_7.den):Option (denO o_ff_7):=
 if (ltI u.1.2.2.2.2.1 u.1.2.2.2.1) then
 if 0≤u.1.2.2.2.2.1 then
 ((u.1.2.2.1)[(u.1.2.2.2.2.1).toNat]?).bind fun y6=>
 (F_fe (y6,())).bind fun r7=>
 if (u.1.2.1.length+[r7.1.1].length)*16≤140737488355328 then
 let v8:=(u.1.2.1++[r7.1.1])
 let v9:=(IntKind.i64.wrap (u.1.2.2.2.2.1+(1:Int)))
 rec (((),(v8,(u.1.2.2.1,(u.1.2.2.2.1,(v9,()))))),((u.2.1.1,()),()))
 else none
 else none
 else
 some (.inl (((),(u.1.2.1,())),((u.2.1.1,()),())))
def L_ff_7 (x:i_ff_7.den):Option (denO o_ff_7):=Qb l_ff_7 lots x
def F_ff (x:denP P_ae):FO P_ae R_at:=
 let v1:=((x.1.length:Nat):Int)
 if (v1 !=(8:Int)) then
 some ((((1:Int),(([]:List (den Y38)),())),()),())
 else
 (F_cw (x.1,())).bind fun r2=>
 if (!r2.1.1) then
 some ((((3:Int),(([]:List (den Y38)),())),()),())
 else
 let v3:=((x.1.length:Nat):Int)
 (L_ff_7 (((),(([]:List (den Y38)),(x.1,(v3,((0:Int),()))))),((((0:Int),(([]:List (den Y38)),())),()),()))).bind fun z10=>
 match z10 with
 | .inl x11=>
  some ((((0:Int),(x11.1.2.1,())),()),())
 | .inr z10_=>
  none
abbrev C_ff:Con:=⟨P_ae,R_at,F_ff,false⟩
abbrev G_ff:Env:=[(107,C_cw),(265,C_fe)]
theorem g_ff:Be G_ff:=(Qa s_cw (Qa s_fe Qc))
abbrev c_ff_7:Cut:=⟨i_ff_7,o_ff_7,fun x=>Qb l_ff_7 lots x⟩
theorem k_ff_7:Bu 29 (.loop (nav Tryz.f253 [1,1,1,1,0,1,0,0])) c_ff_7:=
  Qd (L:=[]) hT g_ff (fun _ _=>by kernel_rfl) okP _
theorem r_ff (x):QA T G_ff [(7,c_ff_7)] Tryz.f253 C_ff.ps C_ff.rs x=C_ff.F x:=by kernel_rfl
theorem s_ff:Bc 253 C_ff:=fnC (L:=[(7,c_ff_7)]) hT g_ff Tryz.f253 (okS okP (okS okP (okS okP (okS okP (okS (okS okP (okB (okU k_ff_7))) okP))))) r_ff
abbrev P_fg:List PK:=[.ptr Y45,.val Y26,.val Y30]
abbrev i_fg_5:Shp:={ slots:=[(6,.s (.ptr 6 0)),(8,.s (.own 88 Y38)),(20,.s (.dat YI))],boxes:=[(6,[.dat YI,.own 88 Y38])],rows:=[] }
abbrev o_fg_5:List (Ex×Shp):=[(.exit 0,{ slots:=[(6,.s (.ptr 6 0)),(8,.s (.own 88 Y38))],boxes:=[(6,[.dat YI,.own 88 Y38])],rows:=[] })]
def l_fg_5 (rec:i_fg_5.den→Option (denO o_fg_5)) (u:i_fg_5.den):Option (denO o_fg_5):=
 if (ltI u.1.2.2.1 (8:Int)) then
 if (u.1.2.1.length+[(u.1.2.2.1,((7:Int),()))].length)*16≤140737488355328 then
 let v3:=(u.1.2.1++[(u.1.2.2.1,((7:Int),()))])
 let v4:=(IntKind.i64.wrap (u.1.2.2.1+(1:Int)))
 rec (((),(v3,(v4,()))),((u.2.1.1,()),()))
 else none
 else
 some (.inl (((),(u.1.2.1,())),((u.2.1.1,()),())))
def L_fg_5 (x:i_fg_5.den):Option (denO o_fg_5):=Qb l_fg_5 lots x
def F_fg (x:denP P_fg):FO P_fg R_at:=
 ((x.1.2.2.1)[((10:Int)).toNat]?).bind fun y1=>
 let v2:=(IntKind.i64.wrap (y1-(1:Int)))
 if (ltI v2 (0:Int)) then
 (L_fg_5 (((),(([]:List (den Y38)),((0:Int),()))),((((0:Int),(([]:List (den Y38)),())),()),()))).bind fun z5=>
 match z5 with
 | .inl x6=>
  some ((((0:Int),(x6.1.2.1,())),()),())
 | .inr z5_=>
  none
 else
 if 0≤v2 then
 ((x.2.1)[(v2).toNat]?).bind fun y7=>
 if (ltI y7.1 (0:Int))=false then
 if 0≤v2 then
 ((x.2.1)[(v2).toNat]?).bind fun y8=>
 let v9:=(iand .i64 y8.2.1 (1:Int))
 if (v9==(0:Int))=false then
 if (v2==(7:Int)) then
 some ((((7:Int),(([]:List (den Y38)),())),()),())
 else
 if 0≤v2 then
 ((x.2.1)[(v2).toNat]?).bind fun y10=>
 (F_dm (x.2.2.1,y10.1,())).bind fun r11=>
 (F_ff (r11.1.1,())).bind fun r12=>
 some ((r12.1.1,()),())
 else none
 else
 some ((((7:Int),(([]:List (den Y38)),())),()),())
 else none
 else
 some ((((7:Int),(([]:List (den Y38)),())),()),())
 else none
abbrev C_fg:Con:=⟨P_fg,R_at,F_fg,false⟩
abbrev G_fg:Env:=[(43,C_dm),(253,C_ff)]
theorem g_fg:Be G_fg:=(Qa s_dm (Qa s_ff Qc))
abbrev c_fg_5:Cut:=⟨i_fg_5,o_fg_5,fun x=>Qb l_fg_5 lots x⟩
theorem k_fg_5:Bu 59 (.loop (nav Tryz.f228 [1,1,0,1,0,1,0,1,0,0])) c_fg_5:=
  Qd (L:=[]) hT g_fg (fun _ _=>by kernel_rfl) okP _
theorem r_fg (x):QA T G_fg [(5,c_fg_5)] Tryz.f228 C_fg.ps C_fg.rs x=C_fg.F x:=by kernel_rfl
theorem s_fg:Bc 228 C_fg:=fnC (L:=[(5,c_fg_5)]) hT g_fg Tryz.f228 (okS okP (okS okP (okS (okS okP (okI (okS okP (okS (okS okP (okB (okU k_fg_5))) okP)) okP)) okP))) r_fg
def F_fh (x:denP P_n):FO P_n R_a:=
 (F_cc (x.1,(0:Int),(63:Int),())).bind fun r1=>
 some ((r1.1.1,()),())
abbrev C_fh:Con:=⟨P_n,R_a,F_fh,false⟩
theorem s_fh:Bc 254 C_fh:=fnE (Qa s_cc Qc) Tryz.f254
def F_fi (x:denP P_n):FO P_n R_c:=
 if (x.1==(1:Int)) then
 some (((7:Int),()),())
 else
 if (x.1==(2:Int)) then
 some (((8:Int),()),())
 else
 if (x.1==(4:Int)) then
 some (((9:Int),()),())
 else
 some (((0:Int),()),())
abbrev C_fi:Con:=⟨P_n,R_c,F_fi,false⟩
theorem s_fi:Bc 255 C_fi:=fnE g_a Tryz.f255
def F_fj (x:denP P_ar):FO P_ar R_r:=
 (F_fh (x.2.1,())).bind fun r1=>
 if (!r1.1.1)=false then
 let v2:=(IntKind.i64.wrap ((x.2.1).tdiv (8:Int)))
 if 0≤v2 then
 ((x.1)[(v2).toNat]?).bind fun y3=>
 if (ltI y3.1 (0:Int))=false then
 let v4:=(IntKind.i64.wrap ((x.2.1).tdiv (8:Int)))
 if 0≤v4 then
 ((x.1)[(v4).toNat]?).bind fun y5=>
 let v6:=(iand .i64 y5.2.1 x.2.2.1)
 if (v6==(0:Int)) then
 (F_fi (x.2.2.1,())).bind fun r7=>
 some (((r7.1.1,((0:Int),())),()),())
 else
 let v8:=(IntKind.i64.wrap ((x.2.1).tdiv (8:Int)))
 if 0≤v8 then
 ((x.1)[(v8).toNat]?).bind fun y9=>
 let v10:=(IntKind.i64.wrap (y9.1*(8:Int)))
 let v11:=((x.2.1).tmod (8:Int))
 let v12:=(IntKind.i64.wrap (v10+v11))
 some ((((0:Int),(v12,())),()),())
 else none
 else none
 else
 (F_fi (x.2.2.1,())).bind fun r13=>
 some (((r13.1.1,((0:Int),())),()),())
 else none
 else
 (F_fi (x.2.2.1,())).bind fun r14=>
 some (((r14.1.1,((0:Int),())),()),())
abbrev C_fj:Con:=⟨P_ar,R_r,F_fj,false⟩
theorem s_fj:Bc 229 C_fj:=fnE (Qa s_fh (Qa s_fi Qc)) Tryz.f229
abbrev P_fk:List PK:=[.ptr Y45,.val Y26,.val Y30,.val YI,.val YI]
def F_fk (x:denP P_fk):FO P_fk R_r:=
 (F_fg (x.1,x.2.1,x.2.2.1,())).bind fun r1=>
 if (r1.1.1.1 !=(0:Int)) then
 some (((r1.1.1.1,((0:Int),())),()),())
 else
 (F_fj (r1.1.1.2.1,x.2.2.2.1,x.2.2.2.2.1,())).bind fun r2=>
 if (r2.1.1.1 !=(0:Int)) then
 some ((r2.1.1,()),())
 else
 let v3:=(IntKind.i64.wrap ((r2.1.1.2.1).tdiv (8:Int)))
 if (v3 !=(7:Int)) then
 (F_fj (x.2.1,r2.1.1.2.1,x.2.2.2.2.1,())).bind fun r4=>
 some ((r4.1.1,()),())
 else
 if (x.2.2.2.2.1==(4:Int)) then
 some ((((9:Int),((0:Int),())),()),())
 else
 let v5:=((r2.1.1.2.1).tmod (8:Int))
 let v6:=(IntKind.i64.wrap ((1000:Int)+v5))
 some ((((0:Int),(v6,())),()),())
abbrev C_fk:Con:=⟨P_fk,R_r,F_fk,false⟩
theorem s_fk:Bc 187 C_fk:=fnE (Qa s_fg (Qa s_fj Qc)) Tryz.f187
def F_fl (x:denP P_q):FO P_q R_c:=
 (F_cc (x.1.1,(1:Int),(26:Int),())).bind fun r1=>
 if (!r1.1.1)=false then
 (F_cc (x.1.2.1,(0:Int),(15:Int),())).bind fun r2=>
 if (!r2.1.1)=false then
 (F_cc (x.1.2.2.1,(0:Int),(15:Int),())).bind fun r3=>
 if (!r3.1.1)=false then
 (F_cc (x.1.2.2.2.1,(0:Int),(65535:Int),())).bind fun r4=>
 if (!r4.1.1) then
 some (((3:Int),()),())
 else
 if (leI x.1.1 (11:Int)) then
 if (ltI (15:Int) x.1.2.2.2.1) then
 some (((1:Int),()),())
 else
 some (((0:Int),()),())
 else
 if (x.1.1==(13:Int)) then
 if (x.1.2.2.1 !=(0:Int)) then
 some (((1:Int),()),())
 else
 some (((0:Int),()),())
 else
 if (x.1.1==(19:Int)) then
 if (x.1.2.2.1 !=(0:Int)) then
 some (((1:Int),()),())
 else
 some (((0:Int),()),())
 else
 if (x.1.1==(21:Int)) then
 if (ltI (10:Int) x.1.2.2.2.1)=false then
 if (x.1.2.2.1 !=(0:Int)) then
 some (((1:Int),()),())
 else
 some (((0:Int),()),())
 else
 some (((1:Int),()),())
 else
 if (x.1.1==(22:Int)) then
 if (ltI (10:Int) x.1.2.2.2.1)=false then
 if (x.1.2.1 !=(0:Int)) then
 some (((1:Int),()),())
 else
 some (((0:Int),()),())
 else
 some (((1:Int),()),())
 else
 if (leI (23:Int) x.1.1) then
 if (x.1.2.1 !=(0:Int))=false then
 if (x.1.2.2.1 !=(0:Int))=false then
 if (x.1.2.2.2.1 !=(0:Int)) then
 some (((1:Int),()),())
 else
 some (((0:Int),()),())
 else
 some (((1:Int),()),())
 else
 some (((1:Int),()),())
 else
 some (((0:Int),()),())
 else
 some (((3:Int),()),())
 else
 some (((3:Int),()),())
 else
 some (((3:Int),()),())
abbrev C_fl:Con:=⟨P_q,R_c,F_fl,false⟩
theorem s_fl:Bc 230 C_fl:=fnE (Qa s_cc Qc) Tryz.f230
abbrev R_fm:List VK:=[.s (.dat Y223)]
def F_fm (x:denP P_n):FO P_n R_fm:=
 let v1:=((x.1).fdiv (2 ^ 24))
 let v2:=((x.1).fdiv (2 ^ 20))
 let v3:=(iand .i64 v2 (15:Int))
 let v4:=((x.1).fdiv (2 ^ 16))
 let v5:=(iand .i64 v4 (15:Int))
 let v6:=(iand .i64 x.1 (65535:Int))
 (F_fl ((v1,(v3,(v5,(v6,())))),())).bind fun r7=>
 if (r7.1.1 !=(0:Int)) then
 some ((((5:Int),(((0:Int),((0:Int),((0:Int),((0:Int),())))),())),()),())
 else
 some ((((0:Int),((v1,(v3,(v5,(v6,())))),())),()),())
abbrev C_fm:Con:=⟨P_n,R_fm,F_fm,false⟩
theorem s_fm:Bc 188 C_fm:=fnE (Qa s_fl Qc) Tryz.f188
def F_fn (x:denP P_n):FO P_n R_c:=
 let v1:=(iand .i64 x.1 (4294967295:Int))
 some ((v1,()),())
abbrev C_fn:Con:=⟨P_n,R_c,F_fn,false⟩
theorem s_fn:Bc 256 C_fn:=fnE g_a Tryz.f256
def F_fo (x:denP P_ay):FO P_ay R_c:=
 (F_fn (x.1,())).bind fun r1=>
 (F_fn (x.2.1,())).bind fun r2=>
 let v3:=(IntKind.i64.wrap (r1.1.1+r2.1.1))
 (F_fn (v3,())).bind fun r4=>
 some ((r4.1.1,()),())
abbrev C_fo:Con:=⟨P_ay,R_c,F_fo,false⟩
theorem s_fo:Bc 231 C_fo:=fnE (Qa s_fn Qc) Tryz.f231
def F_fp (x:denP P_n):FO P_n R_c:=
 let v1:=(iand .i64 x.1 (65535:Int))
 if (leI (32768:Int) v1) then
 let v2:=(IntKind.i64.wrap (v1-(65536:Int)))
 some ((v2,()),())
 else
 some ((v1,()),())
abbrev C_fp:Con:=⟨P_n,R_c,F_fp,false⟩
theorem s_fp:Bc 232 C_fp:=fnE g_a Tryz.f232
abbrev P_fq:List PK:=[.box [.own 2 YI,.dat YI,.own 2 YI,.dat .bool,.dat .bool,.dat .bool,.dat YI,.own 2 YI,.own 2 YI] [.own 2 YI,.dat YI,.own 2 YI,.dat .bool,.dat .bool,.dat .bool,.dat YI,.own 2 YI,.own 2 YI],.val YI]
def F_fq (x:denP P_fq):FO P_fq R_c:=
 if (x.2.1==(1:Int)) then
 let v1:=((x.1.2.2.2.2.2.2.2.1.length:Nat):Int)
 if (ltI (0:Int) v1) then
 if 0≤(0:Int)∧(0:Int)< ((x.1.2.2.2.2.2.2.2.1.length:Nat):Int) then
 ((x.1.2.2.2.2.2.2.2.1)[((0:Int)).toNat]?).bind fun y2=>
 if 0≤(1:Int)∧(1:Int)≤((x.1.2.2.2.2.2.2.2.1.length:Nat):Int)∧((x.1.2.2.2.2.2.2.2.1.length:Nat):Int)≤((x.1.2.2.2.2.2.2.2.1.length:Nat):Int) then
 (F_dl (((x.1.2.2.2.2.2.2.2.1.drop (0+((1:Int)).toNat)).take ((((x.1.2.2.2.2.2.2.2.1.length:Nat):Int)).toNat-((1:Int)).toNat)),())).bind fun r3=>
 some ((y2,()),((x.1.1,(x.1.2.1,(x.1.2.2.1,(x.1.2.2.2.1,(x.1.2.2.2.2.1,(x.1.2.2.2.2.2.1,(x.1.2.2.2.2.2.2.1,(r3.1.1,(x.1.2.2.2.2.2.2.2.2.1,()))))))))),()))
 else none
 else none
 else
 some (((0:Int),()),(x.1,()))
 else
 if (x.2.1==(2:Int)) then
 some ((x.1.2.2.2.2.2.2.1,()),(x.1,()))
 else
 if (x.2.1==(3:Int)) then
 if 0≤(9:Int)∧(9:Int)< ((x.1.2.2.1.length:Nat):Int) then
 ((x.1.2.2.1)[((9:Int)).toNat]?).bind fun y4=>
 some ((y4,()),(x.1,()))
 else none
 else
 if (x.2.1==(4:Int)) then
 (F_ez (x.1,())).bind fun r5=>
 some ((r5.1.1,()),(x.1,()))
 else
 if (x.2.1==(6:Int)) then
 let v6:=((x.1.2.2.2.2.2.2.2.1.length:Nat):Int)
 some ((v6,()),(x.1,()))
 else
 some (((0:Int),()),(x.1,()))
abbrev C_fq:Con:=⟨P_fq,R_c,F_fq,false⟩
theorem s_fq:Bc 257 C_fq:=fnE (Qa s_dl (Qa s_ez Qc)) Tryz.f257
abbrev P_fr:List PK:=[.box [.own 2 YI,.dat YI,.own 2 YI,.dat .bool,.dat .bool,.dat .bool,.dat YI,.own 2 YI,.own 2 YI,.dat Y26,.own 2 YI,.dat YI,.dat YI] [.own 2 YI,.dat YI,.own 2 YI,.dat .bool,.dat .bool,.dat .bool,.dat YI,.own 2 YI,.own 2 YI,.dat Y26,.own 2 YI,.dat YI,.dat YI],.val YI]
abbrev R_fr:List VK:=[.s (.dat YI),.s (.dat .bool)]
def F_fr (x:denP P_fr):FO P_fr R_fr:=
 (F_fk ((x.1.1,(x.1.2.1,(x.1.2.2.1,(x.1.2.2.2.1,(x.1.2.2.2.2.1,(x.1.2.2.2.2.2.1,(x.1.2.2.2.2.2.2.1,(x.1.2.2.2.2.2.2.2.1,(x.1.2.2.2.2.2.2.2.2.1,()))))))))),x.1.2.2.2.2.2.2.2.2.2.1,x.1.2.2.2.2.2.2.2.2.2.2.1,x.2.1,(1:Int),())).bind fun r1=>
 if (r1.1.1.1 !=(0:Int)) then
 (F_fd (x.1,(3:Int),x.2.1,())).bind fun r2=>
 some (((0:Int),false,()),(r2.2.1,()))
 else
 if (leI (1000:Int) r1.1.1.2.1) then
 let v3:=(IntKind.i64.wrap (r1.1.1.2.1-(1000:Int)))
 (F_fq ((x.1.1,(x.1.2.1,(x.1.2.2.1,(x.1.2.2.2.1,(x.1.2.2.2.2.1,(x.1.2.2.2.2.2.1,(x.1.2.2.2.2.2.2.1,(x.1.2.2.2.2.2.2.2.1,(x.1.2.2.2.2.2.2.2.2.1,()))))))))),v3,())).bind fun r4=>
 some ((r4.1.1,true,()),((r4.2.1.1,(r4.2.1.2.1,(r4.2.1.2.2.1,(r4.2.1.2.2.2.1,(r4.2.1.2.2.2.2.1,(r4.2.1.2.2.2.2.2.1,(r4.2.1.2.2.2.2.2.2.1,(r4.2.1.2.2.2.2.2.2.2.1,(r4.2.1.2.2.2.2.2.2.2.2.1,(x.1.2.2.2.2.2.2.2.2.2.1,(x.1.2.2.2.2.2.2.2.2.2.2.1,(x.1.2.2.2.2.2.2.2.2.2.2.2.1,(x.1.2.2.2.2.2.2.2.2.2.2.2.2.1,()))))))))))))),()))
 else
 if 0≤r1.1.1.2.1∧r1.1.1.2.1< ((x.1.2.2.2.2.2.2.2.2.2.2.1.length:Nat):Int) then
 ((x.1.2.2.2.2.2.2.2.2.2.2.1)[(r1.1.1.2.1).toNat]?).bind fun y5=>
 some ((y5,true,()),(x.1,()))
 else none
abbrev C_fr:Con:=⟨P_fr,R_fr,F_fr,false⟩
theorem s_fr:Bc 233 C_fr:=fnE (Qa s_fd (Qa s_fk (Qa s_fq Qc))) Tryz.f233
def F_fs (x:denP P_fc):FO P_fc R_ap:=
 (F_fn (x.2.2.1,())).bind fun r1=>
 if (x.2.1==(0:Int)) then
 let v2:=((r1.1.1).tmod (4:Int))
 if 0≤x.2.1∧x.2.1< ((x.1.2.2.1.length:Nat):Int) then
 ((x.1.2.2.1)[(x.2.1).toNat]?).bind fun y3=>
 let v4:=(x.1.2.2.1.set (x.2.1).toNat v2)
 some ((),((x.1.1,(x.1.2.1,(v4,(x.1.2.2.2.1,(x.1.2.2.2.2.1,(x.1.2.2.2.2.2.1,(x.1.2.2.2.2.2.2.1,(x.1.2.2.2.2.2.2.2.1,(x.1.2.2.2.2.2.2.2.2.1,()))))))))),()))
 else none
 else
 if (x.2.1==(7:Int)) then
 let v5:=((r1.1.1).tmod (8:Int))
 if 0≤x.2.1∧x.2.1< ((x.1.2.2.1.length:Nat):Int) then
 ((x.1.2.2.1)[(x.2.1).toNat]?).bind fun y6=>
 let v7:=(x.1.2.2.1.set (x.2.1).toNat v5)
 some ((),((x.1.1,(x.1.2.1,(v7,(x.1.2.2.2.1,(x.1.2.2.2.2.1,(x.1.2.2.2.2.2.1,(x.1.2.2.2.2.2.2.1,(x.1.2.2.2.2.2.2.2.1,(x.1.2.2.2.2.2.2.2.2.1,()))))))))),()))
 else none
 else
 if (x.2.1==(10:Int)) then
 if 0≤x.2.1∧x.2.1< ((x.1.2.2.1.length:Nat):Int) then
 ((x.1.2.2.1)[(x.2.1).toNat]?).bind fun y8=>
 let v9:=(x.1.2.2.1.set (x.2.1).toNat (0:Int))
 if (leI r1.1.1 (8:Int)) then
 if 0≤x.2.1∧x.2.1< ((v9.length:Nat):Int) then
 ((v9)[(x.2.1).toNat]?).bind fun y10=>
 let v11:=(v9.set (x.2.1).toNat r1.1.1)
 some ((),((x.1.1,(x.1.2.1,(v11,(x.1.2.2.2.1,(x.1.2.2.2.2.1,(x.1.2.2.2.2.2.1,(x.1.2.2.2.2.2.2.1,(x.1.2.2.2.2.2.2.2.1,(x.1.2.2.2.2.2.2.2.2.1,()))))))))),()))
 else none
 else
 some ((),((x.1.1,(x.1.2.1,(v9,(x.1.2.2.2.1,(x.1.2.2.2.2.1,(x.1.2.2.2.2.2.1,(x.1.2.2.2.2.2.2.1,(x.1.2.2.2.2.2.2.2.1,(x.1.2.2.2.2.2.2.2.2.1,()))))))))),()))
 else none
 else
 if (x.2.1==(6:Int)) then
 let v12:=((r1.1.1).tmod (4:Int))
 if (leI (2:Int) v12) then
 some ((),((x.1.1,(x.1.2.1,(x.1.2.2.1,(x.1.2.2.2.1,(x.1.2.2.2.2.1,(false,(x.1.2.2.2.2.2.2.1,(x.1.2.2.2.2.2.2.2.1,(x.1.2.2.2.2.2.2.2.2.1,()))))))))),()))
 else
 some ((),(x.1,()))
 else
 if (x.2.1==(8:Int)) then
 some ((),(x.1,()))
 else
 if 0≤x.2.1∧x.2.1< ((x.1.2.2.1.length:Nat):Int) then
 ((x.1.2.2.1)[(x.2.1).toNat]?).bind fun y13=>
 let v14:=(x.1.2.2.1.set (x.2.1).toNat r1.1.1)
 some ((),((x.1.1,(x.1.2.1,(v14,(x.1.2.2.2.1,(x.1.2.2.2.2.1,(x.1.2.2.2.2.2.1,(x.1.2.2.2.2.2.2.1,(x.1.2.2.2.2.2.2.2.1,(x.1.2.2.2.2.2.2.2.2.1,()))))))))),()))
 else none
abbrev C_fs:Con:=⟨P_fc,R_ap,F_fs,false⟩
theorem s_fs:Bc 237 C_fs:=fnE (Qa s_fn Qc) Tryz.f237
def F_ft (x:denP P_fc):FO P_fc R_c:=
 (F_fn (x.2.2.1,())).bind fun r1=>
 if (x.2.1==(0:Int)) then
 let v2:=((x.1.2.2.2.2.2.2.2.2.1.length:Nat):Int)
 if (ltI v2 (40:Int)) then
 (F_dl (x.1.2.2.2.2.2.2.2.2.1,())).bind fun r3=>
 if (r3.1.1.length+[r1.1.1].length)*8≤140737488355328 then
 let v4:=(r3.1.1++[r1.1.1])
 some (((-1:Int),()),((x.1.1,(x.1.2.1,(x.1.2.2.1,(x.1.2.2.2.1,(x.1.2.2.2.2.1,(x.1.2.2.2.2.2.1,(x.1.2.2.2.2.2.2.1,(x.1.2.2.2.2.2.2.2.1,(v4,()))))))))),()))
 else none
 else
 some (((-1:Int),()),(x.1,()))
 else
 if (x.2.1==(3:Int)) then
 (F_fs (x.1,(9:Int),r1.1.1,())).bind fun r5=>
 some (((-1:Int),()),(r5.2.1,()))
 else
 if (x.2.1==(4:Int)) then
 (F_fs (x.1,(6:Int),r1.1.1,())).bind fun r6=>
 some (((-1:Int),()),(r6.2.1,()))
 else
 if (x.2.1==(5:Int)) then
 some ((r1.1.1,()),(x.1,()))
 else
 some (((-1:Int),()),(x.1,()))
abbrev C_ft:Con:=⟨P_fc,R_c,F_ft,false⟩
theorem s_ft:Bc 258 C_ft:=fnE (Qa s_dl (Qa s_fs (Qa s_fn Qc))) Tryz.f258
def F_fu (x:denP P_fd):FO P_fd R_a:=
 (F_fk ((x.1.1,(x.1.2.1,(x.1.2.2.1,(x.1.2.2.2.1,(x.1.2.2.2.2.1,(x.1.2.2.2.2.2.1,(x.1.2.2.2.2.2.2.1,(x.1.2.2.2.2.2.2.2.1,(x.1.2.2.2.2.2.2.2.2.1,()))))))))),x.1.2.2.2.2.2.2.2.2.2.1,x.1.2.2.2.2.2.2.2.2.2.2.1,x.2.1,(2:Int),())).bind fun r1=>
 if (r1.1.1.1 !=(0:Int)) then
 (F_fd (x.1,(4:Int),x.2.1,())).bind fun r2=>
 some ((false,()),(r2.2.1,()))
 else
 if (leI (1000:Int) r1.1.1.2.1) then
 let v3:=(IntKind.i64.wrap (r1.1.1.2.1-(1000:Int)))
 (F_ft ((x.1.1,(x.1.2.1,(x.1.2.2.1,(x.1.2.2.2.1,(x.1.2.2.2.2.1,(x.1.2.2.2.2.2.1,(x.1.2.2.2.2.2.2.1,(x.1.2.2.2.2.2.2.2.1,(x.1.2.2.2.2.2.2.2.2.1,()))))))))),v3,x.2.2.1,())).bind fun r4=>
 some ((true,()),((r4.2.1.1,(r4.2.1.2.1,(r4.2.1.2.2.1,(r4.2.1.2.2.2.1,(r4.2.1.2.2.2.2.1,(r4.2.1.2.2.2.2.2.1,(r4.2.1.2.2.2.2.2.2.1,(r4.2.1.2.2.2.2.2.2.2.1,(r4.2.1.2.2.2.2.2.2.2.2.1,(x.1.2.2.2.2.2.2.2.2.2.1,(x.1.2.2.2.2.2.2.2.2.2.2.1,(x.1.2.2.2.2.2.2.2.2.2.2.2.1,(r4.1.1,()))))))))))))),()))
 else
 if 0≤r1.1.1.2.1∧r1.1.1.2.1< ((x.1.2.2.2.2.2.2.2.2.2.2.1.length:Nat):Int) then
 ((x.1.2.2.2.2.2.2.2.2.2.2.1)[(r1.1.1.2.1).toNat]?).bind fun y5=>
 let v6:=(x.1.2.2.2.2.2.2.2.2.2.2.1.set (r1.1.1.2.1).toNat x.2.2.1)
 some ((true,()),((x.1.1,(x.1.2.1,(x.1.2.2.1,(x.1.2.2.2.1,(x.1.2.2.2.2.1,(x.1.2.2.2.2.2.1,(x.1.2.2.2.2.2.2.1,(x.1.2.2.2.2.2.2.2.1,(x.1.2.2.2.2.2.2.2.2.1,(x.1.2.2.2.2.2.2.2.2.2.1,(v6,(x.1.2.2.2.2.2.2.2.2.2.2.2.1,(x.1.2.2.2.2.2.2.2.2.2.2.2.2.1,()))))))))))))),()))
 else none
abbrev C_fu:Con:=⟨P_fd,R_a,F_fu,false⟩
theorem s_fu:Bc 234 C_fu:=fnE (Qa s_fd (Qa s_fk (Qa s_ft Qc))) Tryz.f234
def F_fv (x:denP P_n):FO P_n R_c:=
 (F_fn (x.1,())).bind fun r1=>
 if (ltI r1.1.1 (2147483648:Int)) then
 some ((r1.1.1,()),())
 else
 let v2:=(IntKind.i64.wrap (r1.1.1-(4294967295:Int)))
 let v3:=(IntKind.i64.wrap (v2-(1:Int)))
 some ((v3,()),())
abbrev C_fv:Con:=⟨P_n,R_c,F_fv,false⟩
theorem s_fv:Bc 235 C_fv:=fnE (Qa s_fn Qc) Tryz.f235
def F_fw (x:denP P_bh):FO P_bh R_c:=
 if (x.2.1==(6:Int)) then
 (F_ez (x.1,())).bind fun r1=>
 some ((r1.1.1,()),())
 else
 if (x.2.1==(8:Int)) then
 some ((x.1.2.2.2.2.2.2.1,()),())
 else
 if 0≤x.2.1 then
 ((x.1.2.2.1)[(x.2.1).toNat]?).bind fun y2=>
 some ((y2,()),())
 else none
abbrev C_fw:Con:=⟨P_bh,R_c,F_fw,false⟩
theorem s_fw:Bc 236 C_fw:=fnE (Qa s_ez Qc) Tryz.f236
abbrev P_fx:List PK:=[.box [.own 2 YI,.dat YI,.own 2 YI,.dat .bool,.dat .bool,.dat .bool,.dat YI,.own 2 YI,.own 2 YI] [.own 2 YI,.dat YI,.own 2 YI,.dat .bool,.dat .bool,.dat .bool,.dat YI,.own 2 YI,.own 2 YI]]
def F_fx (x:denP P_fx):FO P_fx R_ap:=
 if 0≤(2:Int)∧(2:Int)< ((x.1.2.2.1.length:Nat):Int) then
 ((x.1.2.2.1)[((2:Int)).toNat]?).bind fun y1=>
 if 0≤(0:Int)∧(0:Int)< ((x.1.2.2.1.length:Nat):Int) then
 ((x.1.2.2.1)[((0:Int)).toNat]?).bind fun y2=>
 let v3:=(IntKind.i64.wrap ((y2).tdiv (2:Int)))
 let v4:=(IntKind.i64.wrap ((2:Int)+v3))
 if 0≤(0:Int)∧(0:Int)< ((x.1.2.2.1.length:Nat):Int) then
 ((x.1.2.2.1)[((0:Int)).toNat]?).bind fun y5=>
 let v6:=(x.1.2.2.1.set ((0:Int)).toNat v4)
 some ((),((x.1.1,(y1,(v6,(x.1.2.2.2.1,(x.1.2.2.2.2.1,(x.1.2.2.2.2.2.1,(x.1.2.2.2.2.2.2.1,(x.1.2.2.2.2.2.2.2.1,(x.1.2.2.2.2.2.2.2.2.1,()))))))))),()))
 else none
 else none
 else none
abbrev C_fx:Con:=⟨P_fx,R_ap,F_fx,false⟩
theorem s_fx:Bc 238 C_fx:=fnE g_a Tryz.f238
def F_fy (x:denP P_ay):FO P_ay R_c:=
 let v1:=(IntKind.u32.wrap x.1)
 let v2:=(IntKind.u32.wrap x.2.1)
 let v3:=(IntKind.u32.wrap (v1*v2))
 let v4:=(IntKind.i64.wrap v3)
 some ((v4,()),())
abbrev C_fy:Con:=⟨P_ay,R_c,F_fy,false⟩
theorem s_fy:Bc 259 C_fy:=fnE g_a Tryz.f259
def F_fz (x:denP P_ay):FO P_ay R_c:=
 (F_fv (x.1,())).bind fun r1=>
 (F_fv (x.2.1,())).bind fun r2=>
 if (r2.1.1==(0:Int)) then
 some (((4294967295:Int),()),())
 else
 if r2.1.1=0 then none else
 let v3:=(IntKind.i64.wrap ((r1.1.1).tdiv r2.1.1))
 (F_fn (v3,())).bind fun r4=>
 some ((r4.1.1,()),())
abbrev C_fz:Con:=⟨P_ay,R_c,F_fz,false⟩
theorem s_fz:Bc 260 C_fz:=fnE (Qa s_fv (Qa s_fn Qc)) Tryz.f260
def F_ga (x:denP P_ay):FO P_ay R_c:=
 (F_fv (x.1,())).bind fun r1=>
 (F_fv (x.2.1,())).bind fun r2=>
 if (r2.1.1==(0:Int)) then
 (F_fn (x.1,())).bind fun r3=>
 some ((r3.1.1,()),())
 else
 if r2.1.1=0 then none else
 let v4:=((r1.1.1).tmod r2.1.1)
 (F_fn (v4,())).bind fun r5=>
 some ((r5.1.1,()),())
abbrev C_ga:Con:=⟨P_ay,R_c,F_ga,false⟩
theorem s_ga:Bc 261 C_ga:=fnE (Qa s_fv (Qa s_fn Qc)) Tryz.f261
def F_gb (x:denP P_e):FO P_e R_r:=
 (F_fn (x.2.1,())).bind fun r1=>
 (F_fn (x.2.2.1,())).bind fun r2=>
 if (x.1==(1:Int)) then
 let v3:=(iand .i64 r1.1.1 r2.1.1)
 some ((((0:Int),(v3,())),()),())
 else
 if (x.1==(2:Int)) then
 let v4:=(ior .i64 r1.1.1 r2.1.1)
 some ((((0:Int),(v4,())),()),())
 else
 if (x.1==(3:Int)) then
 let v5:=(ixor .i64 r1.1.1 r2.1.1)
 some ((((0:Int),(v5,())),()),())
 else
 some ((((3:Int),((0:Int),())),()),())
abbrev C_gb:Con:=⟨P_e,R_r,F_gb,false⟩
theorem s_gb:Bc 262 C_gb:=fnE (Qa s_fn Qc) Tryz.f262
def F_gc (x:denP P_bn):FO P_bn R_c:=
 (F_fn (x.1,())).bind fun r1=>
 (F_fn (x.2.1,())).bind fun r2=>
 let v3:=((r2.1.1).tmod (32:Int))
 if x.2.2.1 then
 if v3< 0 then none else
 let v4:=(IntKind.i64.wrap (r1.1.1*2 ^ (min (v3).toNat 64)))
 (F_fn (v4,())).bind fun r5=>
 some ((r5.1.1,()),())
 else
 if v3< 0 then none else
 let v6:=((r1.1.1).fdiv (2 ^ (min (v3).toNat 64)))
 some ((v6,()),())
abbrev C_gc:Con:=⟨P_bn,R_c,F_gc,false⟩
theorem s_gc:Bc 263 C_gc:=fnE (Qa s_fn Qc) Tryz.f263
def F_gd (x:denP P_e):FO P_e R_r:=
 (F_fn (x.2.1,())).bind fun r1=>
 (F_fn (x.2.2.1,())).bind fun r2=>
 if (x.1==(1:Int)) then
 (F_fo (r1.1.1,r2.1.1,())).bind fun r3=>
 some ((((0:Int),(r3.1.1,())),()),())
 else
 if (x.1==(2:Int)) then
 let v4:=(IntKind.i64.wrap (r1.1.1-r2.1.1))
 (F_fn (v4,())).bind fun r5=>
 some ((((0:Int),(r5.1.1,())),()),())
 else
 if (x.1==(3:Int)) then
 (F_fy (r1.1.1,r2.1.1,())).bind fun r6=>
 some ((((0:Int),(r6.1.1,())),()),())
 else
 if (x.1==(4:Int)) then
 (F_fz (r1.1.1,r2.1.1,())).bind fun r7=>
 some ((((0:Int),(r7.1.1,())),()),())
 else
 if (x.1==(5:Int)) then
 (F_ga (r1.1.1,r2.1.1,())).bind fun r8=>
 some ((((0:Int),(r8.1.1,())),()),())
 else
 if (x.1==(6:Int)) then
 let v9:=(IntKind.i64.wrap (x.1-(6:Int)))
 let v10:=(IntKind.i64.wrap (v9+(1:Int)))
 (F_gb (v10,r1.1.1,r2.1.1,())).bind fun r11=>
 some ((r11.1.1,()),())
 else
 if (x.1==(7:Int)) then
 let v12:=(IntKind.i64.wrap (x.1-(6:Int)))
 let v13:=(IntKind.i64.wrap (v12+(1:Int)))
 (F_gb (v13,r1.1.1,r2.1.1,())).bind fun r14=>
 some ((r14.1.1,()),())
 else
 if (x.1==(8:Int)) then
 let v15:=(IntKind.i64.wrap (x.1-(6:Int)))
 let v16:=(IntKind.i64.wrap (v15+(1:Int)))
 (F_gb (v16,r1.1.1,r2.1.1,())).bind fun r17=>
 some ((r17.1.1,()),())
 else
 if (x.1==(9:Int)) then
 (F_gc (r1.1.1,r2.1.1,(x.1==(9:Int)),())).bind fun r18=>
 some ((((0:Int),(r18.1.1,())),()),())
 else
 if (x.1==(10:Int)) then
 (F_gc (r1.1.1,r2.1.1,(x.1==(9:Int)),())).bind fun r19=>
 some ((((0:Int),(r19.1.1,())),()),())
 else
 if (x.1==(11:Int)) then
 (F_fv (r1.1.1,())).bind fun r20=>
 (F_fv (r2.1.1,())).bind fun r21=>
 if (ltI r20.1.1 r21.1.1) then
 some ((((0:Int),((1:Int),())),()),())
 else
 some ((((0:Int),((0:Int),())),()),())
 else
 some ((((3:Int),((0:Int),())),()),())
abbrev C_gd:Con:=⟨P_e,R_r,F_gd,false⟩
theorem s_gd:Bc 239 C_gd:=fnE (Qa s_fo (Qa s_fv (Qa s_fn (Qa s_fy (Qa s_fz (Qa s_ga (Qa s_gb (Qa s_gc Qc)))))))) Tryz.f239
def F_ge (x:denP P_n):FO P_n R_a:=
 (F_cc (x.1,(1:Int),(14:Int),())).bind fun r1=>
 if r1.1.1=false then
 (F_cc (x.1,(19:Int),(21:Int),())).bind fun r2=>
 some ((r2.1.1,()),())
 else
 some ((true,()),())
abbrev C_ge:Con:=⟨P_n,R_a,F_ge,false⟩
theorem s_ge:Bc 240 C_ge:=fnE (Qa s_cc Qc) Tryz.f240
abbrev P_gf:List PK:=[.box [.own 2 YI,.dat YI,.own 2 YI,.dat .bool,.dat .bool,.dat .bool,.dat YI,.own 2 YI,.own 2 YI,.dat Y26,.own 2 YI,.dat YI,.dat YI] [.own 2 YI,.dat YI,.own 2 YI,.dat .bool,.dat .bool,.dat .bool,.dat YI,.own 2 YI,.own 2 YI,.dat Y26,.own 2 YI,.dat YI,.dat YI],.val Y186]
abbrev i_gf_100000:Shp:={ slots:=[(0,.s (.ptr 9000000 0)),(3,.s (.ptr 3 0)),(5,.s (.dat YI)),(6,.s (.dat YI)),(7,.s (.dat YI)),(8,.s (.dat YI)),(9,.s (.dat YI)),(10,.s (.dat YI)),(11,.s (.dat YI)),(12,.s (.dat YI)),(56,.s (.dat YI))],boxes:=[(3,[.dat YI,.dat YI,.dat YI,.dat YI]),(9000000,[.own 2 YI,.dat YI,.own 2 YI,.dat .bool,.dat .bool,.dat .bool,.dat YI,.own 2 YI,.own 2 YI,.dat Y26,.own 2 YI,.dat YI,.dat YI])],rows:=[] }
abbrev o_gf_100000:List (Ex×Shp):=[(.normal,{ slots:=[(0,.s (.ptr 9000000 0)),(3,.s (.ptr 3 0)),(6,.s (.dat YI)),(11,.s (.dat YI))],boxes:=[(3,[.dat YI,.dat YI,.dat YI,.dat YI]),(9000000,[.own 2 YI,.dat YI,.own 2 YI,.dat .bool,.dat .bool,.dat .bool,.dat YI,.own 2 YI,.own 2 YI,.dat Y26,.own 2 YI,.dat YI,.dat YI])],rows:=[] }),(.ret,{ slots:=[(4,.s (.dat .bool))],boxes:=[(9000000,[.own 2 YI,.dat YI,.own 2 YI,.dat .bool,.dat .bool,.dat .bool,.dat YI,.own 2 YI,.own 2 YI,.dat Y26,.own 2 YI,.dat YI,.dat YI])],rows:=[] })]
def L_gf_100000 (u100000:i_gf_100000.den):Option (denO o_gf_100000):=
 if (u100000.1.2.2.2.2.2.2.2.2.2.2.1==(12:Int)) then
 some (.inl (((),((),(u100000.1.2.2.2.1,(u100000.1.2.2.2.2.2.2.2.1,())))),((u100000.2.1.1,(u100000.2.1.2.1,())),())))
 else
 if (u100000.1.2.2.2.2.2.2.2.2.2.2.1==(13:Int)) then
 let v40:=(IntKind.i64.wrap (u100000.2.1.1.2.2.2.1*(65536:Int)))
 some (.inl (((),((),(u100000.1.2.2.2.1,(v40,())))),((u100000.2.1.1,(u100000.2.1.2.1,())),())))
 else
 if (u100000.1.2.2.2.2.2.2.2.2.2.2.1==(14:Int)) then
 (F_fr (u100000.2.1.2.1,u100000.1.2.2.2.2.2.2.2.1,())).bind fun r41=>
 if (!r41.1.2.1) then
 some (.inr (.inl ((false,()),((r41.2.1,()),()))))
 else
 some (.inl (((),((),(u100000.1.2.2.2.1,(r41.1.1,())))),((u100000.2.1.1,(r41.2.1,())),())))
 else
 if (u100000.1.2.2.2.2.2.2.2.2.2.2.1==(15:Int)) then
 (F_fu (u100000.2.1.2.1,u100000.1.2.2.2.2.2.2.2.1,u100000.1.2.2.2.2.2.1,())).bind fun r42=>
 if (!r42.1.1) then
 some (.inr (.inl ((false,()),((r42.2.1,()),()))))
 else
 some (.inl (((),((),(u100000.1.2.2.2.1,(u100000.1.2.2.2.2.2.2.2.2.1,())))),((u100000.2.1.1,(r42.2.1,())),())))
 else
 if (u100000.1.2.2.2.2.2.2.2.2.2.2.1==(16:Int)) then
 if (u100000.1.2.2.2.2.2.2.2.2.2.1==(16:Int))=true then
 if (u100000.1.2.2.2.2.2.1==u100000.1.2.2.2.2.2.2.1)=false then
 if (u100000.1.2.2.2.2.2.2.2.2.2.1==(17:Int))=true then
 if (u100000.1.2.2.2.2.2.1 !=u100000.1.2.2.2.2.2.2.1)=false then
 if (u100000.1.2.2.2.2.2.2.2.2.2.1==(18:Int))=true then
 (F_fv (u100000.1.2.2.2.2.2.1,())).bind fun r43=>
 (F_fv (u100000.1.2.2.2.2.2.2.1,())).bind fun r44=>
 if (ltI r43.1.1 r44.1.1) then
 some (.inl (((),((),(u100000.1.2.2.2.2.1,(u100000.1.2.2.2.2.2.2.2.2.1,())))),((u100000.2.1.1,(u100000.2.1.2.1,())),())))
 else
 some (.inl (((),((),(u100000.1.2.2.2.1,(u100000.1.2.2.2.2.2.2.2.2.1,())))),((u100000.2.1.1,(u100000.2.1.2.1,())),())))
 else
 some (.inl (((),((),(u100000.1.2.2.2.1,(u100000.1.2.2.2.2.2.2.2.2.1,())))),((u100000.2.1.1,(u100000.2.1.2.1,())),())))
 else
 some (.inl (((),((),(u100000.1.2.2.2.2.1,(u100000.1.2.2.2.2.2.2.2.2.1,())))),((u100000.2.1.1,(u100000.2.1.2.1,())),())))
 else
 if (u100000.1.2.2.2.2.2.2.2.2.2.1==(18:Int))=true then
 (F_fv (u100000.1.2.2.2.2.2.1,())).bind fun r45=>
 (F_fv (u100000.1.2.2.2.2.2.2.1,())).bind fun r46=>
 if (ltI r45.1.1 r46.1.1) then
 some (.inl (((),((),(u100000.1.2.2.2.2.1,(u100000.1.2.2.2.2.2.2.2.2.1,())))),((u100000.2.1.1,(u100000.2.1.2.1,())),())))
 else
 some (.inl (((),((),(u100000.1.2.2.2.1,(u100000.1.2.2.2.2.2.2.2.2.1,())))),((u100000.2.1.1,(u100000.2.1.2.1,())),())))
 else
 some (.inl (((),((),(u100000.1.2.2.2.1,(u100000.1.2.2.2.2.2.2.2.2.1,())))),((u100000.2.1.1,(u100000.2.1.2.1,())),())))
 else
 some (.inl (((),((),(u100000.1.2.2.2.2.1,(u100000.1.2.2.2.2.2.2.2.2.1,())))),((u100000.2.1.1,(u100000.2.1.2.1,())),())))
 else
 if (u100000.1.2.2.2.2.2.2.2.2.2.1==(17:Int))=true then
 if (u100000.1.2.2.2.2.2.1 !=u100000.1.2.2.2.2.2.2.1)=false then
 if (u100000.1.2.2.2.2.2.2.2.2.2.1==(18:Int))=true then
 (F_fv (u100000.1.2.2.2.2.2.1,())).bind fun r47=>
 (F_fv (u100000.1.2.2.2.2.2.2.1,())).bind fun r48=>
 if (ltI r47.1.1 r48.1.1) then
 some (.inl (((),((),(u100000.1.2.2.2.2.1,(u100000.1.2.2.2.2.2.2.2.2.1,())))),((u100000.2.1.1,(u100000.2.1.2.1,())),())))
 else
 some (.inl (((),((),(u100000.1.2.2.2.1,(u100000.1.2.2.2.2.2.2.2.2.1,())))),((u100000.2.1.1,(u100000.2.1.2.1,())),())))
 else
 some (.inl (((),((),(u100000.1.2.2.2.1,(u100000.1.2.2.2.2.2.2.2.2.1,())))),((u100000.2.1.1,(u100000.2.1.2.1,())),())))
 else
 some (.inl (((),((),(u100000.1.2.2.2.2.1,(u100000.1.2.2.2.2.2.2.2.2.1,())))),((u100000.2.1.1,(u100000.2.1.2.1,())),())))
 else
 if (u100000.1.2.2.2.2.2.2.2.2.2.1==(18:Int))=true then
 (F_fv (u100000.1.2.2.2.2.2.1,())).bind fun r49=>
 (F_fv (u100000.1.2.2.2.2.2.2.1,())).bind fun r50=>
 if (ltI r49.1.1 r50.1.1) then
 some (.inl (((),((),(u100000.1.2.2.2.2.1,(u100000.1.2.2.2.2.2.2.2.2.1,())))),((u100000.2.1.1,(u100000.2.1.2.1,())),())))
 else
 some (.inl (((),((),(u100000.1.2.2.2.1,(u100000.1.2.2.2.2.2.2.2.2.1,())))),((u100000.2.1.1,(u100000.2.1.2.1,())),())))
 else
 some (.inl (((),((),(u100000.1.2.2.2.1,(u100000.1.2.2.2.2.2.2.2.2.1,())))),((u100000.2.1.1,(u100000.2.1.2.1,())),())))
 else
 if (u100000.1.2.2.2.2.2.2.2.2.2.2.1==(17:Int)) then
 if (u100000.1.2.2.2.2.2.2.2.2.2.1==(16:Int))=true then
 if (u100000.1.2.2.2.2.2.1==u100000.1.2.2.2.2.2.2.1)=false then
 if (u100000.1.2.2.2.2.2.2.2.2.2.1==(17:Int))=true then
 if (u100000.1.2.2.2.2.2.1 !=u100000.1.2.2.2.2.2.2.1)=false then
 if (u100000.1.2.2.2.2.2.2.2.2.2.1==(18:Int))=true then
 (F_fv (u100000.1.2.2.2.2.2.1,())).bind fun r51=>
 (F_fv (u100000.1.2.2.2.2.2.2.1,())).bind fun r52=>
 if (ltI r51.1.1 r52.1.1) then
 some (.inl (((),((),(u100000.1.2.2.2.2.1,(u100000.1.2.2.2.2.2.2.2.2.1,())))),((u100000.2.1.1,(u100000.2.1.2.1,())),())))
 else
 some (.inl (((),((),(u100000.1.2.2.2.1,(u100000.1.2.2.2.2.2.2.2.2.1,())))),((u100000.2.1.1,(u100000.2.1.2.1,())),())))
 else
 some (.inl (((),((),(u100000.1.2.2.2.1,(u100000.1.2.2.2.2.2.2.2.2.1,())))),((u100000.2.1.1,(u100000.2.1.2.1,())),())))
 else
 some (.inl (((),((),(u100000.1.2.2.2.2.1,(u100000.1.2.2.2.2.2.2.2.2.1,())))),((u100000.2.1.1,(u100000.2.1.2.1,())),())))
 else
 if (u100000.1.2.2.2.2.2.2.2.2.2.1==(18:Int))=true then
 (F_fv (u100000.1.2.2.2.2.2.1,())).bind fun r53=>
 (F_fv (u100000.1.2.2.2.2.2.2.1,())).bind fun r54=>
 if (ltI r53.1.1 r54.1.1) then
 some (.inl (((),((),(u100000.1.2.2.2.2.1,(u100000.1.2.2.2.2.2.2.2.2.1,())))),((u100000.2.1.1,(u100000.2.1.2.1,())),())))
 else
 some (.inl (((),((),(u100000.1.2.2.2.1,(u100000.1.2.2.2.2.2.2.2.2.1,())))),((u100000.2.1.1,(u100000.2.1.2.1,())),())))
 else
 some (.inl (((),((),(u100000.1.2.2.2.1,(u100000.1.2.2.2.2.2.2.2.2.1,())))),((u100000.2.1.1,(u100000.2.1.2.1,())),())))
 else
 some (.inl (((),((),(u100000.1.2.2.2.2.1,(u100000.1.2.2.2.2.2.2.2.2.1,())))),((u100000.2.1.1,(u100000.2.1.2.1,())),())))
 else
 if (u100000.1.2.2.2.2.2.2.2.2.2.1==(17:Int))=true then
 if (u100000.1.2.2.2.2.2.1 !=u100000.1.2.2.2.2.2.2.1)=false then
 if (u100000.1.2.2.2.2.2.2.2.2.2.1==(18:Int))=true then
 (F_fv (u100000.1.2.2.2.2.2.1,())).bind fun r55=>
 (F_fv (u100000.1.2.2.2.2.2.2.1,())).bind fun r56=>
 if (ltI r55.1.1 r56.1.1) then
 some (.inl (((),((),(u100000.1.2.2.2.2.1,(u100000.1.2.2.2.2.2.2.2.2.1,())))),((u100000.2.1.1,(u100000.2.1.2.1,())),())))
 else
 some (.inl (((),((),(u100000.1.2.2.2.1,(u100000.1.2.2.2.2.2.2.2.2.1,())))),((u100000.2.1.1,(u100000.2.1.2.1,())),())))
 else
 some (.inl (((),((),(u100000.1.2.2.2.1,(u100000.1.2.2.2.2.2.2.2.2.1,())))),((u100000.2.1.1,(u100000.2.1.2.1,())),())))
 else
 some (.inl (((),((),(u100000.1.2.2.2.2.1,(u100000.1.2.2.2.2.2.2.2.2.1,())))),((u100000.2.1.1,(u100000.2.1.2.1,())),())))
 else
 if (u100000.1.2.2.2.2.2.2.2.2.2.1==(18:Int))=true then
 (F_fv (u100000.1.2.2.2.2.2.1,())).bind fun r57=>
 (F_fv (u100000.1.2.2.2.2.2.2.1,())).bind fun r58=>
 if (ltI r57.1.1 r58.1.1) then
 some (.inl (((),((),(u100000.1.2.2.2.2.1,(u100000.1.2.2.2.2.2.2.2.2.1,())))),((u100000.2.1.1,(u100000.2.1.2.1,())),())))
 else
 some (.inl (((),((),(u100000.1.2.2.2.1,(u100000.1.2.2.2.2.2.2.2.2.1,())))),((u100000.2.1.1,(u100000.2.1.2.1,())),())))
 else
 some (.inl (((),((),(u100000.1.2.2.2.1,(u100000.1.2.2.2.2.2.2.2.2.1,())))),((u100000.2.1.1,(u100000.2.1.2.1,())),())))
 else
 if (u100000.1.2.2.2.2.2.2.2.2.2.2.1==(18:Int)) then
 if (u100000.1.2.2.2.2.2.2.2.2.2.1==(16:Int))=true then
 if (u100000.1.2.2.2.2.2.1==u100000.1.2.2.2.2.2.2.1)=false then
 if (u100000.1.2.2.2.2.2.2.2.2.2.1==(17:Int))=true then
 if (u100000.1.2.2.2.2.2.1 !=u100000.1.2.2.2.2.2.2.1)=false then
 if (u100000.1.2.2.2.2.2.2.2.2.2.1==(18:Int))=true then
 (F_fv (u100000.1.2.2.2.2.2.1,())).bind fun r59=>
 (F_fv (u100000.1.2.2.2.2.2.2.1,())).bind fun r60=>
 if (ltI r59.1.1 r60.1.1) then
 some (.inl (((),((),(u100000.1.2.2.2.2.1,(u100000.1.2.2.2.2.2.2.2.2.1,())))),((u100000.2.1.1,(u100000.2.1.2.1,())),())))
 else
 some (.inl (((),((),(u100000.1.2.2.2.1,(u100000.1.2.2.2.2.2.2.2.2.1,())))),((u100000.2.1.1,(u100000.2.1.2.1,())),())))
 else
 some (.inl (((),((),(u100000.1.2.2.2.1,(u100000.1.2.2.2.2.2.2.2.2.1,())))),((u100000.2.1.1,(u100000.2.1.2.1,())),())))
 else
 some (.inl (((),((),(u100000.1.2.2.2.2.1,(u100000.1.2.2.2.2.2.2.2.2.1,())))),((u100000.2.1.1,(u100000.2.1.2.1,())),())))
 else
 if (u100000.1.2.2.2.2.2.2.2.2.2.1==(18:Int))=true then
 (F_fv (u100000.1.2.2.2.2.2.1,())).bind fun r61=>
 (F_fv (u100000.1.2.2.2.2.2.2.1,())).bind fun r62=>
 if (ltI r61.1.1 r62.1.1) then
 some (.inl (((),((),(u100000.1.2.2.2.2.1,(u100000.1.2.2.2.2.2.2.2.2.1,())))),((u100000.2.1.1,(u100000.2.1.2.1,())),())))
 else
 some (.inl (((),((),(u100000.1.2.2.2.1,(u100000.1.2.2.2.2.2.2.2.2.1,())))),((u100000.2.1.1,(u100000.2.1.2.1,())),())))
 else
 some (.inl (((),((),(u100000.1.2.2.2.1,(u100000.1.2.2.2.2.2.2.2.2.1,())))),((u100000.2.1.1,(u100000.2.1.2.1,())),())))
 else
 some (.inl (((),((),(u100000.1.2.2.2.2.1,(u100000.1.2.2.2.2.2.2.2.2.1,())))),((u100000.2.1.1,(u100000.2.1.2.1,())),())))
 else
 if (u100000.1.2.2.2.2.2.2.2.2.2.1==(17:Int))=true then
 if (u100000.1.2.2.2.2.2.1 !=u100000.1.2.2.2.2.2.2.1)=false then
 if (u100000.1.2.2.2.2.2.2.2.2.2.1==(18:Int))=true then
 (F_fv (u100000.1.2.2.2.2.2.1,())).bind fun r63=>
 (F_fv (u100000.1.2.2.2.2.2.2.1,())).bind fun r64=>
 if (ltI r63.1.1 r64.1.1) then
 some (.inl (((),((),(u100000.1.2.2.2.2.1,(u100000.1.2.2.2.2.2.2.2.2.1,())))),((u100000.2.1.1,(u100000.2.1.2.1,())),())))
 else
 some (.inl (((),((),(u100000.1.2.2.2.1,(u100000.1.2.2.2.2.2.2.2.2.1,())))),((u100000.2.1.1,(u100000.2.1.2.1,())),())))
 else
 some (.inl (((),((),(u100000.1.2.2.2.1,(u100000.1.2.2.2.2.2.2.2.2.1,())))),((u100000.2.1.1,(u100000.2.1.2.1,())),())))
 else
 some (.inl (((),((),(u100000.1.2.2.2.2.1,(u100000.1.2.2.2.2.2.2.2.2.1,())))),((u100000.2.1.1,(u100000.2.1.2.1,())),())))
 else
 if (u100000.1.2.2.2.2.2.2.2.2.2.1==(18:Int))=true then
 (F_fv (u100000.1.2.2.2.2.2.1,())).bind fun r65=>
 (F_fv (u100000.1.2.2.2.2.2.2.1,())).bind fun r66=>
 if (ltI r65.1.1 r66.1.1) then
 some (.inl (((),((),(u100000.1.2.2.2.2.1,(u100000.1.2.2.2.2.2.2.2.2.1,())))),((u100000.2.1.1,(u100000.2.1.2.1,())),())))
 else
 some (.inl (((),((),(u100000.1.2.2.2.1,(u100000.1.2.2.2.2.2.2.2.2.1,())))),((u100000.2.1.1,(u100000.2.1.2.1,())),())))
 else
 some (.inl (((),((),(u100000.1.2.2.2.1,(u100000.1.2.2.2.2.2.2.2.2.1,())))),((u100000.2.1.1,(u100000.2.1.2.1,())),())))
 else
 if (u100000.1.2.2.2.2.2.2.2.2.2.2.1==(19:Int)) then
 some (.inl (((),((),(u100000.1.2.2.2.2.1,(u100000.1.2.2.2.1,())))),((u100000.2.1.1,(u100000.2.1.2.1,())),())))
 else
 if (u100000.1.2.2.2.2.2.2.2.2.2.2.1==(20:Int)) then
 some (.inl (((),((),(u100000.1.2.2.2.2.2.2.2.1,(u100000.1.2.2.2.1,())))),((u100000.2.1.1,(u100000.2.1.2.1,())),())))
 else
 if (u100000.1.2.2.2.2.2.2.2.2.2.2.1==(21:Int)) then
 (F_fw ((u100000.2.1.2.1.1,(u100000.2.1.2.1.2.1,(u100000.2.1.2.1.2.2.1,(u100000.2.1.2.1.2.2.2.1,(u100000.2.1.2.1.2.2.2.2.1,(u100000.2.1.2.1.2.2.2.2.2.1,(u100000.2.1.2.1.2.2.2.2.2.2.1,(u100000.2.1.2.1.2.2.2.2.2.2.2.1,(u100000.2.1.2.1.2.2.2.2.2.2.2.2.1,()))))))))),u100000.2.1.1.2.2.2.1,())).bind fun r67=>
 some (.inl (((),((),(u100000.1.2.2.2.1,(r67.1.1,())))),((u100000.2.1.1,(u100000.2.1.2.1,())),())))
 else
 if (u100000.1.2.2.2.2.2.2.2.2.2.2.1==(22:Int)) then
 (F_fs ((u100000.2.1.2.1.1,(u100000.2.1.2.1.2.1,(u100000.2.1.2.1.2.2.1,(u100000.2.1.2.1.2.2.2.1,(u100000.2.1.2.1.2.2.2.2.1,(u100000.2.1.2.1.2.2.2.2.2.1,(u100000.2.1.2.1.2.2.2.2.2.2.1,(u100000.2.1.2.1.2.2.2.2.2.2.2.1,(u100000.2.1.2.1.2.2.2.2.2.2.2.2.1,()))))))))),u100000.2.1.1.2.2.2.1,u100000.1.2.2.2.2.2.2.1,())).bind fun r68=>
 some (.inl (((),((),(u100000.1.2.2.2.1,(u100000.1.2.2.2.2.2.2.2.2.1,())))),((u100000.2.1.1,((r68.2.1.1,(r68.2.1.2.1,(r68.2.1.2.2.1,(r68.2.1.2.2.2.1,(r68.2.1.2.2.2.2.1,(r68.2.1.2.2.2.2.2.1,(r68.2.1.2.2.2.2.2.2.1,(r68.2.1.2.2.2.2.2.2.2.1,(r68.2.1.2.2.2.2.2.2.2.2.1,(u100000.2.1.2.1.2.2.2.2.2.2.2.2.2.1,(u100000.2.1.2.1.2.2.2.2.2.2.2.2.2.2.1,(u100000.2.1.2.1.2.2.2.2.2.2.2.2.2.2.2.1,(u100000.2.1.2.1.2.2.2.2.2.2.2.2.2.2.2.2.1,()))))))))))))),())),())))
 else
 if (u100000.1.2.2.2.2.2.2.2.2.2.2.1==(23:Int)) then
 (F_fd (u100000.2.1.2.1,(5:Int),(0:Int),())).bind fun r69=>
 some (.inr (.inl ((false,()),((r69.2.1,()),()))))
 else
 if (u100000.1.2.2.2.2.2.2.2.2.2.2.1==(24:Int)) then
 (F_fx ((u100000.2.1.2.1.1,(u100000.2.1.2.1.2.1,(u100000.2.1.2.1.2.2.1,(u100000.2.1.2.1.2.2.2.1,(u100000.2.1.2.1.2.2.2.2.1,(u100000.2.1.2.1.2.2.2.2.2.1,(u100000.2.1.2.1.2.2.2.2.2.2.1,(u100000.2.1.2.1.2.2.2.2.2.2.2.1,(u100000.2.1.2.1.2.2.2.2.2.2.2.2.1,()))))))))),())).bind fun r70=>
 some (.inl (((),((),(r70.2.1.2.1,(u100000.1.2.2.2.2.2.2.2.2.1,())))),((u100000.2.1.1,((r70.2.1.1,(r70.2.1.2.1,(r70.2.1.2.2.1,(r70.2.1.2.2.2.1,(r70.2.1.2.2.2.2.1,(r70.2.1.2.2.2.2.2.1,(r70.2.1.2.2.2.2.2.2.1,(r70.2.1.2.2.2.2.2.2.2.1,(r70.2.1.2.2.2.2.2.2.2.2.1,(u100000.2.1.2.1.2.2.2.2.2.2.2.2.2.1,(u100000.2.1.2.1.2.2.2.2.2.2.2.2.2.2.1,(u100000.2.1.2.1.2.2.2.2.2.2.2.2.2.2.2.1,(u100000.2.1.2.1.2.2.2.2.2.2.2.2.2.2.2.2.1,()))))))))))))),())),())))
 else
 if (u100000.1.2.2.2.2.2.2.2.2.2.2.1==(25:Int)) then
 some (.inl (((),((),(u100000.1.2.2.2.1,(u100000.1.2.2.2.2.2.2.2.2.1,())))),((u100000.2.1.1,((u100000.2.1.2.1.1,(u100000.2.1.2.1.2.1,(u100000.2.1.2.1.2.2.1,(u100000.2.1.2.1.2.2.2.1,(true,(u100000.2.1.2.1.2.2.2.2.2.1,(u100000.2.1.2.1.2.2.2.2.2.2.1,(u100000.2.1.2.1.2.2.2.2.2.2.2.1,(u100000.2.1.2.1.2.2.2.2.2.2.2.2.1,(u100000.2.1.2.1.2.2.2.2.2.2.2.2.2.1,(u100000.2.1.2.1.2.2.2.2.2.2.2.2.2.2.1,(u100000.2.1.2.1.2.2.2.2.2.2.2.2.2.2.2.1,(u100000.2.1.2.1.2.2.2.2.2.2.2.2.2.2.2.2.1,()))))))))))))),())),())))
 else
 if (u100000.1.2.2.2.2.2.2.2.2.2.2.1==(26:Int)) then
 some (.inl (((),((),(u100000.1.2.2.1,(u100000.1.2.2.2.2.2.2.2.2.1,())))),((u100000.2.1.1,((u100000.2.1.2.1.1,(u100000.2.1.2.1.2.1,(u100000.2.1.2.1.2.2.1,(true,(u100000.2.1.2.1.2.2.2.2.1,(u100000.2.1.2.1.2.2.2.2.2.1,(u100000.2.1.2.1.2.2.2.2.2.2.1,(u100000.2.1.2.1.2.2.2.2.2.2.2.1,(u100000.2.1.2.1.2.2.2.2.2.2.2.2.1,(u100000.2.1.2.1.2.2.2.2.2.2.2.2.2.1,(u100000.2.1.2.1.2.2.2.2.2.2.2.2.2.2.1,(u100000.2.1.2.1.2.2.2.2.2.2.2.2.2.2.2.1,(u100000.2.1.2.1.2.2.2.2.2.2.2.2.2.2.2.2.1,()))))))))))))),())),())))
 else
 if 0≤u100000.2.1.1.2.2.2.1∧u100000.2.1.1.2.2.2.1< ((u100000.2.1.2.1.1.length:Nat):Int) then
 ((u100000.2.1.2.1.1)[(u100000.2.1.1.2.2.2.1).toNat]?).bind fun y71=>
 (F_gd (u100000.1.2.2.2.2.2.2.2.2.2.1,u100000.1.2.2.2.2.2.2.1,y71,())).bind fun r72=>
 some (.inl (((),((),(u100000.1.2.2.2.1,(r72.1.1.2.1,())))),((u100000.2.1.1,(u100000.2.1.2.1,())),())))
 else none
def F_gf (x:denP P_gf):FO P_gf R_a:=
 (F_fo (x.1.2.1,(1:Int),())).bind fun r1=>
 (F_fp (x.2.1.2.2.2.1,())).bind fun r2=>
 (F_fo (x.1.2.1,r2.1.1,())).bind fun r3=>
 if 0≤x.2.1.2.1∧x.2.1.2.1< ((x.1.1.length:Nat):Int) then
 ((x.1.1)[(x.2.1.2.1).toNat]?).bind fun y4=>
 if 0≤x.2.1.2.2.1∧x.2.1.2.2.1< ((x.1.1.length:Nat):Int) then
 ((x.1.1)[(x.2.1.2.2.1).toNat]?).bind fun y5=>
 (F_fp (x.2.1.2.2.2.1,())).bind fun r6=>
 (F_fo (y5,r6.1.1,())).bind fun r7=>
 (L_gf_100000 (((),((),(x.1.2.1,(r1.1.1,(r3.1.1,(y4,(y5,(r7.1.1,((0:Int),(x.2.1.1,(x.2.1.1,()))))))))))),(((x.2.1.1,(x.2.1.2.1,(x.2.1.2.2.1,(x.2.1.2.2.2.1,())))),(x.1,())),()))).bind fun z73=>
 match z73 with
 | .inl x74=>
  (F_ge (x74.2.1.1.1,())).bind fun r75=>
  if r75.1.1=true then
  if (ltI (0:Int) x74.2.1.1.2.1) then
  if 0≤x74.2.1.1.2.1∧x74.2.1.1.2.1< ((x74.2.1.2.1.1.length:Nat):Int) then
  ((x74.2.1.2.1.1)[(x74.2.1.1.2.1).toNat]?).bind fun y76=>
  let v77:=(x74.2.1.2.1.1.set (x74.2.1.1.2.1).toNat x74.1.2.2.2.1)
  let v78:=(IntKind.i64.wrap (x74.2.1.2.1.2.2.2.2.2.2.1+(1:Int)))
  let v79:=(if (1000000000:Int)< v78 then (1000000000:Int) else v78)
  some ((true,()),((v77,(x74.1.2.2.1,(x74.2.1.2.1.2.2.1,(x74.2.1.2.1.2.2.2.1,(x74.2.1.2.1.2.2.2.2.1,(x74.2.1.2.1.2.2.2.2.2.1,(v79,(x74.2.1.2.1.2.2.2.2.2.2.2.1,(x74.2.1.2.1.2.2.2.2.2.2.2.2.1,(x74.2.1.2.1.2.2.2.2.2.2.2.2.2.1,(x74.2.1.2.1.2.2.2.2.2.2.2.2.2.2.1,(x74.2.1.2.1.2.2.2.2.2.2.2.2.2.2.2.1,(x74.2.1.2.1.2.2.2.2.2.2.2.2.2.2.2.2.1,()))))))))))))),()))
  else none
  else
  let v80:=(IntKind.i64.wrap (x74.2.1.2.1.2.2.2.2.2.2.1+(1:Int)))
  let v81:=(if (1000000000:Int)< v80 then (1000000000:Int) else v80)
  some ((true,()),((x74.2.1.2.1.1,(x74.1.2.2.1,(x74.2.1.2.1.2.2.1,(x74.2.1.2.1.2.2.2.1,(x74.2.1.2.1.2.2.2.2.1,(x74.2.1.2.1.2.2.2.2.2.1,(v81,(x74.2.1.2.1.2.2.2.2.2.2.2.1,(x74.2.1.2.1.2.2.2.2.2.2.2.2.1,(x74.2.1.2.1.2.2.2.2.2.2.2.2.2.1,(x74.2.1.2.1.2.2.2.2.2.2.2.2.2.2.1,(x74.2.1.2.1.2.2.2.2.2.2.2.2.2.2.2.1,(x74.2.1.2.1.2.2.2.2.2.2.2.2.2.2.2.2.1,()))))))))))))),()))
  else
  let v82:=(IntKind.i64.wrap (x74.2.1.2.1.2.2.2.2.2.2.1+(1:Int)))
  let v83:=(if (1000000000:Int)< v82 then (1000000000:Int) else v82)
  some ((true,()),((x74.2.1.2.1.1,(x74.1.2.2.1,(x74.2.1.2.1.2.2.1,(x74.2.1.2.1.2.2.2.1,(x74.2.1.2.1.2.2.2.2.1,(x74.2.1.2.1.2.2.2.2.2.1,(v83,(x74.2.1.2.1.2.2.2.2.2.2.2.1,(x74.2.1.2.1.2.2.2.2.2.2.2.2.1,(x74.2.1.2.1.2.2.2.2.2.2.2.2.2.1,(x74.2.1.2.1.2.2.2.2.2.2.2.2.2.2.1,(x74.2.1.2.1.2.2.2.2.2.2.2.2.2.2.2.1,(x74.2.1.2.1.2.2.2.2.2.2.2.2.2.2.2.2.1,()))))))))))))),()))
 | .inr z73_=>
  match z73_ with
  | .inl x84=>
   some ((x84.1.1,()),(x84.2.1.1,()))
  | .inr z73__=>
   none
 else none
 else none
abbrev C_gf:Con:=⟨P_gf,R_a,F_gf,false⟩
abbrev G_gf:Env:=[(185,C_fd),(231,C_fo),(232,C_fp),(233,C_fr),(234,C_fu),(235,C_fv),(236,C_fw),(237,C_fs),(238,C_fx),(239,C_gd),(240,C_ge)]
theorem g_gf:Be G_gf:=(Qa s_fd (Qa s_fo (Qa s_fp (Qa s_fr (Qa s_fu (Qa s_fv (Qa s_fw (Qa s_fs (Qa s_fx (Qa s_gd (Qa s_ge Qc)))))))))))
abbrev c_gf_100000:Cut:=⟨i_gf_100000,o_gf_100000,L_gf_100000⟩
theorem t_gf_100000 (x):run T G_gf [] (nav Tryz.f189 [1,1,1,1,1,1,0,1,1,0]) (mk 214 i_gf_100000 x) (Qqn 0 o_gf_100000)=L_gf_100000 x:=by kernel_rfl
theorem k_gf_100000:Bu 214 (.block 0 (nav Tryz.f189 [1,1,1,1,1,1,0,1,1,0])) c_gf_100000:=
  QsO (L:=[]) hT g_gf t_gf_100000 okP
theorem r_gf (x):QA T G_gf [(100000,c_gf_100000)] Tryz.f189 C_gf.ps C_gf.rs x=C_gf.F x:=by kernel_rfl
theorem s_gf:Bc 189 C_gf:=fnC (L:=[(100000,c_gf_100000)]) hT g_gf Tryz.f189 (okS okP (okS okP (okS okP (okS okP (okS okP (okS okP (okS (okS okP (okS okP (okX k_gf_100000))) okP))))))) r_gf
abbrev P_gg:List PK:=[.box [.own 2 YI,.dat YI,.own 2 YI,.dat .bool,.dat .bool,.dat .bool,.dat YI,.own 2 YI,.own 2 YI,.dat Y26,.own 2 YI,.dat YI,.dat YI] [.own 2 YI,.dat YI,.own 2 YI,.dat .bool,.dat .bool,.dat .bool,.dat YI,.own 2 YI,.own 2 YI,.dat Y26,.own 2 YI,.dat YI,.dat YI]]
def F_gg (x:denP P_gg):FO P_gg R_ap:=
 if x.1.2.2.2.1 then
 some ((),((x.1.1,(x.1.2.1,(x.1.2.2.1,(x.1.2.2.2.1,(x.1.2.2.2.2.1,(x.1.2.2.2.2.2.1,(x.1.2.2.2.2.2.2.1,(x.1.2.2.2.2.2.2.2.1,(x.1.2.2.2.2.2.2.2.2.1,(x.1.2.2.2.2.2.2.2.2.2.1,(x.1.2.2.2.2.2.2.2.2.2.2.1,((-1:Int),((-1:Int),()))))))))))))),()))
 else
 (F_fb ((x.1.1,(x.1.2.1,(x.1.2.2.1,(x.1.2.2.2.1,(x.1.2.2.2.2.1,(x.1.2.2.2.2.2.1,(x.1.2.2.2.2.2.2.1,(x.1.2.2.2.2.2.2.2.1,(x.1.2.2.2.2.2.2.2.2.1,()))))))))),())).bind fun r1=>
 if (leI (0:Int) r1.1.1) then
 let v2:=(IntKind.i64.wrap ((16:Int)+r1.1.1))
 (F_fd ((x.1.1,(x.1.2.1,(x.1.2.2.1,(x.1.2.2.2.1,(x.1.2.2.2.2.1,(x.1.2.2.2.2.2.1,(x.1.2.2.2.2.2.2.1,(x.1.2.2.2.2.2.2.2.1,(x.1.2.2.2.2.2.2.2.2.1,(x.1.2.2.2.2.2.2.2.2.2.1,(x.1.2.2.2.2.2.2.2.2.2.2.1,((-1:Int),((-1:Int),()))))))))))))),v2,(0:Int),())).bind fun r3=>
 some ((),(r3.2.1,()))
 else
 if x.1.2.2.2.2.1 then
 (F_ez ((x.1.1,(x.1.2.1,(x.1.2.2.1,(x.1.2.2.2.1,(x.1.2.2.2.2.1,(x.1.2.2.2.2.2.1,(x.1.2.2.2.2.2.2.1,(x.1.2.2.2.2.2.2.2.1,(x.1.2.2.2.2.2.2.2.2.1,()))))))))),())).bind fun r4=>
 if 0≤(7:Int)∧(7:Int)< ((x.1.2.2.1.length:Nat):Int) then
 ((x.1.2.2.1)[((7:Int)).toNat]?).bind fun y5=>
 let v6:=(iand .i64 r4.1.1 y5)
 if (v6==(0:Int)) then
 some ((),((x.1.1,(x.1.2.1,(x.1.2.2.1,(x.1.2.2.2.1,(x.1.2.2.2.2.1,(x.1.2.2.2.2.2.1,(x.1.2.2.2.2.2.2.1,(x.1.2.2.2.2.2.2.2.1,(x.1.2.2.2.2.2.2.2.2.1,(x.1.2.2.2.2.2.2.2.2.2.1,(x.1.2.2.2.2.2.2.2.2.2.2.1,((-1:Int),((-1:Int),()))))))))))))),()))
 else
 (F_fk ((x.1.1,(x.1.2.1,(x.1.2.2.1,(x.1.2.2.2.1,(false,(x.1.2.2.2.2.2.1,(x.1.2.2.2.2.2.2.1,(x.1.2.2.2.2.2.2.2.1,(x.1.2.2.2.2.2.2.2.2.1,()))))))))),x.1.2.2.2.2.2.2.2.2.2.1,x.1.2.2.2.2.2.2.2.2.2.2.1,x.1.2.1,(4:Int),())).bind fun r7=>
 if (r7.1.1.1 !=(0:Int)) then
 (F_fd ((x.1.1,(x.1.2.1,(x.1.2.2.1,(x.1.2.2.2.1,(false,(x.1.2.2.2.2.2.1,(x.1.2.2.2.2.2.2.1,(x.1.2.2.2.2.2.2.2.1,(x.1.2.2.2.2.2.2.2.2.1,(x.1.2.2.2.2.2.2.2.2.2.1,(x.1.2.2.2.2.2.2.2.2.2.2.1,((-1:Int),((-1:Int),()))))))))))))),(2:Int),x.1.2.1,())).bind fun r8=>
 some ((),(r8.2.1,()))
 else
 if 0≤r7.1.1.2.1∧r7.1.1.2.1< ((x.1.2.2.2.2.2.2.2.2.2.2.1.length:Nat):Int) then
 ((x.1.2.2.2.2.2.2.2.2.2.2.1)[(r7.1.1.2.1).toNat]?).bind fun y9=>
 (F_fm (y9,())).bind fun r10=>
 if (r10.1.1.1 !=(0:Int)) then
 if 0≤r7.1.1.2.1∧r7.1.1.2.1< ((x.1.2.2.2.2.2.2.2.2.2.2.1.length:Nat):Int) then
 ((x.1.2.2.2.2.2.2.2.2.2.2.1)[(r7.1.1.2.1).toNat]?).bind fun y11=>
 (F_fd ((x.1.1,(x.1.2.1,(x.1.2.2.1,(x.1.2.2.2.1,(false,(x.1.2.2.2.2.2.1,(x.1.2.2.2.2.2.2.1,(x.1.2.2.2.2.2.2.2.1,(x.1.2.2.2.2.2.2.2.2.1,(x.1.2.2.2.2.2.2.2.2.2.1,(x.1.2.2.2.2.2.2.2.2.2.2.1,((-1:Int),((-1:Int),()))))))))))))),(1:Int),y11,())).bind fun r12=>
 some ((),(r12.2.1,()))
 else none
 else
 (F_gf ((x.1.1,(x.1.2.1,(x.1.2.2.1,(x.1.2.2.2.1,(false,(x.1.2.2.2.2.2.1,(x.1.2.2.2.2.2.2.1,(x.1.2.2.2.2.2.2.2.1,(x.1.2.2.2.2.2.2.2.2.1,(x.1.2.2.2.2.2.2.2.2.2.1,(x.1.2.2.2.2.2.2.2.2.2.2.1,((-1:Int),((-1:Int),()))))))))))))),r10.1.1.2.1,())).bind fun r13=>
 some ((),(r13.2.1,()))
 else none
 else none
 else
 (F_fk ((x.1.1,(x.1.2.1,(x.1.2.2.1,(x.1.2.2.2.1,(x.1.2.2.2.2.1,(x.1.2.2.2.2.2.1,(x.1.2.2.2.2.2.2.1,(x.1.2.2.2.2.2.2.2.1,(x.1.2.2.2.2.2.2.2.2.1,()))))))))),x.1.2.2.2.2.2.2.2.2.2.1,x.1.2.2.2.2.2.2.2.2.2.2.1,x.1.2.1,(4:Int),())).bind fun r14=>
 if (r14.1.1.1 !=(0:Int)) then
 (F_fd ((x.1.1,(x.1.2.1,(x.1.2.2.1,(x.1.2.2.2.1,(x.1.2.2.2.2.1,(x.1.2.2.2.2.2.1,(x.1.2.2.2.2.2.2.1,(x.1.2.2.2.2.2.2.2.1,(x.1.2.2.2.2.2.2.2.2.1,(x.1.2.2.2.2.2.2.2.2.2.1,(x.1.2.2.2.2.2.2.2.2.2.2.1,((-1:Int),((-1:Int),()))))))))))))),(2:Int),x.1.2.1,())).bind fun r15=>
 some ((),(r15.2.1,()))
 else
 if 0≤r14.1.1.2.1∧r14.1.1.2.1< ((x.1.2.2.2.2.2.2.2.2.2.2.1.length:Nat):Int) then
 ((x.1.2.2.2.2.2.2.2.2.2.2.1)[(r14.1.1.2.1).toNat]?).bind fun y16=>
 (F_fm (y16,())).bind fun r17=>
 if (r17.1.1.1 !=(0:Int)) then
 if 0≤r14.1.1.2.1∧r14.1.1.2.1< ((x.1.2.2.2.2.2.2.2.2.2.2.1.length:Nat):Int) then
 ((x.1.2.2.2.2.2.2.2.2.2.2.1)[(r14.1.1.2.1).toNat]?).bind fun y18=>
 (F_fd ((x.1.1,(x.1.2.1,(x.1.2.2.1,(x.1.2.2.2.1,(x.1.2.2.2.2.1,(x.1.2.2.2.2.2.1,(x.1.2.2.2.2.2.2.1,(x.1.2.2.2.2.2.2.2.1,(x.1.2.2.2.2.2.2.2.2.1,(x.1.2.2.2.2.2.2.2.2.2.1,(x.1.2.2.2.2.2.2.2.2.2.2.1,((-1:Int),((-1:Int),()))))))))))))),(1:Int),y18,())).bind fun r19=>
 some ((),(r19.2.1,()))
 else none
 else
 (F_gf ((x.1.1,(x.1.2.1,(x.1.2.2.1,(x.1.2.2.2.1,(x.1.2.2.2.2.1,(x.1.2.2.2.2.2.1,(x.1.2.2.2.2.2.2.1,(x.1.2.2.2.2.2.2.2.1,(x.1.2.2.2.2.2.2.2.2.1,(x.1.2.2.2.2.2.2.2.2.2.1,(x.1.2.2.2.2.2.2.2.2.2.2.1,((-1:Int),((-1:Int),()))))))))))))),r17.1.1.2.1,())).bind fun r20=>
 some ((),(r20.2.1,()))
 else none
abbrev C_gg:Con:=⟨P_gg,R_ap,F_gg,false⟩
theorem s_gg:Bc 139 C_gg:=fnE (Qa s_fb (Qa s_fd (Qa s_ez (Qa s_fk (Qa s_fm (Qa s_gf Qc)))))) Tryz.f139
abbrev P_gh:List PK:=[.val Y45,.val Y26,.val Y30,.val YI]
abbrev R_gh:List VK:=[.g [.dat YI,.dat YI,.dat YI,.own 2 YI,.dat YI,.own 2 YI,.dat .bool,.dat .bool,.dat .bool,.dat YI,.own 2 YI,.own 2 YI,.own 2 YI]]
abbrev i_gh_4:Shp:={ slots:=[(8,.s (.ptr 8 0)),(9,.s (.ptr 9 0)),(10,.s (.dat YI)),(11,.s (.dat YI)),(18,.s (.dat YI)),(19,.s (.dat YI))],boxes:=[(8,[.dat YI,.dat YI,.dat YI,.own 2 YI,.dat YI,.own 2 YI,.dat .bool,.dat .bool,.dat .bool,.dat YI,.own 2 YI,.own 2 YI,.own 2 YI]),(9,[.own 2 YI,.dat YI,.own 2 YI,.dat .bool,.dat .bool,.dat .bool,.dat YI,.own 2 YI,.own 2 YI,.dat Y26,.own 2 YI,.dat YI,.dat YI])],rows:=[] }
abbrev o_gh_4:List (Ex×Shp):=[(.exit 0,{ slots:=[(8,.s (.ptr 8 0)),(9,.s (.ptr 9 0)),(10,.s (.dat YI)),(11,.s (.dat YI))],boxes:=[(8,[.dat YI,.dat YI,.dat YI,.own 2 YI,.dat YI,.own 2 YI,.dat .bool,.dat .bool,.dat .bool,.dat YI,.own 2 YI,.own 2 YI,.own 2 YI]),(9,[.own 2 YI,.dat YI,.own 2 YI,.dat .bool,.dat .bool,.dat .bool,.dat YI,.own 2 YI,.own 2 YI,.dat Y26,.own 2 YI,.dat YI,.dat YI])],rows:=[] })]
def l_gh_4 (rec:i_gh_4.den→Option (denO o_gh_4)) (u:i_gh_4.den):Option (denO o_gh_4):=
 if (ltI u.1.2.2.2.2.2.1 u.1.2.2.2.2.1) then
 (F_gg (u.2.1.2.1,())).bind fun r4=>
 if (leI (0:Int) r4.2.1.2.2.2.2.2.2.2.2.2.2.2.1) then
 if (leI (0:Int) r4.2.1.2.2.2.2.2.2.2.2.2.2.2.2.1) then
 let v5:=(IntKind.i64.wrap (u.1.2.2.2.2.2.1+(1:Int)))
 rec (((),((),(r4.2.1.2.2.2.2.2.2.2.2.2.2.2.1,(r4.2.1.2.2.2.2.2.2.2.2.2.2.2.2.1,(u.1.2.2.2.2.1,(v5,())))))),((u.2.1.1,(r4.2.1,())),()))
 else
 let v6:=(IntKind.i64.wrap (u.1.2.2.2.2.2.1+(1:Int)))
 rec (((),((),(r4.2.1.2.2.2.2.2.2.2.2.2.2.2.1,(u.1.2.2.2.1,(u.1.2.2.2.2.1,(v6,())))))),((u.2.1.1,(r4.2.1,())),()))
 else
 if (leI (0:Int) r4.2.1.2.2.2.2.2.2.2.2.2.2.2.2.1) then
 let v7:=(IntKind.i64.wrap (u.1.2.2.2.2.2.1+(1:Int)))
 rec (((),((),(u.1.2.2.1,(r4.2.1.2.2.2.2.2.2.2.2.2.2.2.2.1,(u.1.2.2.2.2.1,(v7,())))))),((u.2.1.1,(r4.2.1,())),()))
 else
 let v8:=(IntKind.i64.wrap (u.1.2.2.2.2.2.1+(1:Int)))
 rec (((),((),(u.1.2.2.1,(u.1.2.2.2.1,(u.1.2.2.2.2.1,(v8,())))))),((u.2.1.1,(r4.2.1,())),()))
 else
 some (.inl (((),((),(u.1.2.2.1,(u.1.2.2.2.1,())))),((u.2.1.1,(u.2.1.2.1,())),())))
def L_gh_4 (x:i_gh_4.den):Option (denO o_gh_4):=Qb l_gh_4 lots x
def F_gh (x:denP P_gh):FO P_gh R_gh:=
 (F_dn (x.1,())).bind fun r1=>
 (F_dl (x.2.2.1,())).bind fun r2=>
 (L_gh_4 (((),((),((-1:Int),((-1:Int),(x.2.2.2.1,((0:Int),())))))),((((0:Int),((0:Int),((0:Int),(([]:List (den YI)),((0:Int),(([]:List (den YI)),(false,(false,(false,((0:Int),(([]:List (den YI)),(([]:List (den YI)),(([]:List (den YI)),()))))))))))))),((r1.1.1.1,(r1.1.1.2.1,(r1.1.1.2.2.1,(r1.1.1.2.2.2.1,(r1.1.1.2.2.2.2.1,(r1.1.1.2.2.2.2.2.1,(r1.1.1.2.2.2.2.2.2.1,(r1.1.1.2.2.2.2.2.2.2.1,(r1.1.1.2.2.2.2.2.2.2.2.1,(x.2.1,(r2.1.1,((0:Int),((0:Int),()))))))))))))),())),()))).bind fun z9=>
 match z9 with
 | .inl x10=>
  some ((((0:Int),(x10.1.2.2.1,(x10.1.2.2.2.1,(x10.2.1.2.1.1,(x10.2.1.2.1.2.1,(x10.2.1.2.1.2.2.1,(x10.2.1.2.1.2.2.2.1,(x10.2.1.2.1.2.2.2.2.1,(x10.2.1.2.1.2.2.2.2.2.1,(x10.2.1.2.1.2.2.2.2.2.2.1,(x10.2.1.2.1.2.2.2.2.2.2.2.1,(x10.2.1.2.1.2.2.2.2.2.2.2.2.1,(x10.2.1.2.1.2.2.2.2.2.2.2.2.2.2.1,()))))))))))))),()),())
 | .inr z9_=>
  none
abbrev C_gh:Con:=⟨P_gh,R_gh,F_gh,false⟩
abbrev G_gh:Env:=[(63,C_dn),(87,C_dl),(139,C_gg)]
theorem g_gh:Be G_gh:=(Qa s_dn (Qa s_dl (Qa s_gg Qc)))
abbrev c_gh_4:Cut:=⟨i_gh_4,o_gh_4,fun x=>Qb l_gh_4 lots x⟩
theorem k_gh_4:Bu 40 (.loop (nav Tryz.f89 [1,1,1,0,1,0,0])) c_gh_4:=
  Qd (L:=[]) hT g_gh (fun _ _=>by kernel_rfl) okP _
theorem r_gh (x):QA T G_gh [(4,c_gh_4)] Tryz.f89 C_gh.ps C_gh.rs x=C_gh.F x:=by kernel_rfl
theorem s_gh:Bc 89 C_gh:=fnC (L:=[(4,c_gh_4)]) hT g_gh Tryz.f89 (okS okP (okS okP (okS okP (okS (okS okP (okB (okU k_gh_4))) okP)))) r_gh
abbrev P_gi:List PK:=[.val Y66,.val YI]
def F_gi (x:denP P_gi):FO P_gi R_ey:=
 (F_gh (x.1.1,x.1.2.1,x.1.2.2.1,x.2.1,())).bind fun r1=>
 (F_ex (x.1.2.1,())).bind fun r2=>
 some (((r1.1.1.2.2.2.1,(r1.1.1.2.2.2.2.1,(r1.1.1.2.2.2.2.2.1,(r1.1.1.2.2.2.2.2.2.1,(r1.1.1.2.2.2.2.2.2.2.1,(r1.1.1.2.2.2.2.2.2.2.2.1,(r1.1.1.2.2.2.2.2.2.2.2.2.1,(r1.1.1.2.2.2.2.2.2.2.2.2.2.1,(r1.1.1.2.2.2.2.2.2.2.2.2.2.2.1,(r2.1.1,(r1.1.1.2.2.2.2.2.2.2.2.2.2.2.2.1,()))))))))))),()),())
abbrev C_gi:Con:=⟨P_gi,R_ey,F_gi,false⟩
theorem s_gi:Bc 124 C_gi:=fnE (Qa s_gh (Qa s_ex Qc)) Tryz.f124
abbrev P_gj:List PK:=[.ptr Y32,.val Y66,.val YI]
abbrev i_gj_2:Shp:={ slots:=[(0,.s (.pd Y32)),(2,.s (.dat YI)),(4,.s (.ptr 4 0)),(6,.s (.ptr 6 0)),(13,.s (.dat Y25)),(14,.s (.dat YI)),(15,.s (.dat YI))],boxes:=[(4,[.dat Y30,.dat YI,.dat Y30,.dat .bool,.dat .bool,.dat .bool,.dat YI,.dat Y30,.dat Y30,.dat Y26,.dat Y30]),(6,[.own 2 YI,.dat YI,.own 2 YI,.dat .bool,.dat .bool,.dat .bool,.dat YI,.own 2 YI,.own 2 YI,.own 88 Y38,.own 2 YI])],rows:=[] }
abbrev o_gj_2:List (Ex×Shp):=[(.exit 0,{ slots:=[(0,.s (.pd Y32)),(2,.s (.dat YI)),(4,.s (.ptr 4 0)),(6,.s (.ptr 6 0))],boxes:=[(4,[.dat Y30,.dat YI,.dat Y30,.dat .bool,.dat .bool,.dat .bool,.dat YI,.dat Y30,.dat Y30,.dat Y26,.dat Y30]),(6,[.own 2 YI,.dat YI,.own 2 YI,.dat .bool,.dat .bool,.dat .bool,.dat YI,.own 2 YI,.own 2 YI,.own 88 Y38,.own 2 YI])],rows:=[] })]
def l_gj_2 (rec:i_gj_2.den→Option (denO o_gj_2)) (u:i_gj_2.den):Option (denO o_gj_2):=
 if (ltI u.1.2.2.2.2.2.2.1 u.1.2.2.2.2.2.1) then
 if 0≤u.1.2.2.2.2.2.2.1 then
 ((u.1.2.2.2.2.1)[(u.1.2.2.2.2.2.2.1).toNat]?).bind fun y5=>
 if (y5.2.1==u.1.2.1) then
 (F_dm (u.1.1.2.1,y5.2.2.1,())).bind fun r6=>
 (F_ey (((u.2.1.1.1,(u.2.1.1.2.1,(u.2.1.1.2.2.1,(u.2.1.1.2.2.2.1,(u.2.1.1.2.2.2.2.1,(u.2.1.1.2.2.2.2.2.1,(u.2.1.1.2.2.2.2.2.2.1,(u.2.1.1.2.2.2.2.2.2.2.1,(u.2.1.1.2.2.2.2.2.2.2.2.1,()))))))))),(u.2.1.1.2.2.2.2.2.2.2.2.2.1,(u.2.1.1.2.2.2.2.2.2.2.2.2.2.1,()))),y5.2.2.2.2.1,r6.1.1,())).bind fun r7=>
 let v8:=(IntKind.i64.wrap (u.1.2.2.2.2.2.2.1+(1:Int)))
 rec ((u.1.1,(u.1.2.1,((),((),(u.1.2.2.2.2.1,(u.1.2.2.2.2.2.1,(v8,()))))))),((r7.1.1,(u.2.1.2.1,())),()))
 else
 let v9:=(IntKind.i64.wrap (u.1.2.2.2.2.2.2.1+(1:Int)))
 rec ((u.1.1,(u.1.2.1,((),((),(u.1.2.2.2.2.1,(u.1.2.2.2.2.2.1,(v9,()))))))),((u.2.1.1,(u.2.1.2.1,())),()))
 else none
 else
 some (.inl ((u.1.1,(u.1.2.1,((),((),())))),((u.2.1.1,(u.2.1.2.1,())),())))
def L_gj_2 (x:i_gj_2.den):Option (denO o_gj_2):=Qb l_gj_2 lots x
def F_gj (x:denP P_gj):FO P_gj R_ey:=
 let v1:=((x.1.1.2.1.length:Nat):Int)
 (L_gj_2 ((x.1,(x.2.2.1,((),((),(x.1.1.2.1,(v1,((0:Int),()))))))),(((x.2.1.1.1,(x.2.1.1.2.1,(x.2.1.1.2.2.1,(x.2.1.1.2.2.2.1,(x.2.1.1.2.2.2.2.1,(x.2.1.1.2.2.2.2.2.1,(x.2.1.1.2.2.2.2.2.2.1,(x.2.1.1.2.2.2.2.2.2.2.1,(x.2.1.1.2.2.2.2.2.2.2.2.1,(x.2.1.2.1,(x.2.1.2.2.1,()))))))))))),((([]:List (den YI)),((0:Int),(([]:List (den YI)),(false,(false,(false,((0:Int),(([]:List (den YI)),(([]:List (den YI)),(([]:List (den Y38)),(([]:List (den YI)),()))))))))))),())),()))).bind fun z10=>
 match z10 with
 | .inl x11=>
  if 0≤x11.1.2.1 then
  ((x11.1.1.2.2.1)[(x11.1.2.1).toNat]?).bind fun y12=>
  (F_gi (((x11.2.1.1.1,(x11.2.1.1.2.1,(x11.2.1.1.2.2.1,(x11.2.1.1.2.2.2.1,(x11.2.1.1.2.2.2.2.1,(y12.2.2.2.2.2.1,(x11.2.1.1.2.2.2.2.2.2.1,(x11.2.1.1.2.2.2.2.2.2.2.1,(x11.2.1.1.2.2.2.2.2.2.2.2.1,()))))))))),(x11.2.1.1.2.2.2.2.2.2.2.2.2.1,(x11.2.1.1.2.2.2.2.2.2.2.2.2.2.1,()))),(1:Int),())).bind fun r13=>
  some ((r13.1.1,()),())
  else none
 | .inr z10_=>
  none
abbrev C_gj:Con:=⟨P_gj,R_ey,F_gj,false⟩
abbrev G_gj:Env:=[(43,C_dm),(123,C_ey),(124,C_gi)]
theorem g_gj:Be G_gj:=(Qa s_dm (Qa s_ey (Qa s_gi Qc)))
abbrev c_gj_2:Cut:=⟨i_gj_2,o_gj_2,fun x=>Qb l_gj_2 lots x⟩
theorem k_gj_2:Bu 47 (.loop (nav Tryz.f69 [1,0,1,0,0])) c_gj_2:=
  Qd (L:=[]) hT g_gj (fun _ _=>by kernel_rfl) okP _
theorem r_gj (x):QA T G_gj [(2,c_gj_2)] Tryz.f69 C_gj.ps C_gj.rs x=C_gj.F x:=by kernel_rfl
theorem s_gj:Bc 69 C_gj:=fnC (L:=[(2,c_gj_2)]) hT g_gj Tryz.f69 (okS okP (okS (okS okP (okB (okU k_gj_2))) okP)) r_gj
def F_gk (x:denP P_bt):FO P_bt R_ap:=
 (F_ev (((x.1.1,(x.1.2.1,(x.1.2.2.1,(x.1.2.2.2.1,())))),(x.1.2.2.2.2.1,(x.1.2.2.2.2.2.1,(x.1.2.2.2.2.2.2.1,(x.1.2.2.2.2.2.2.2.1,(x.1.2.2.2.2.2.2.2.2.1,())))))),())).bind fun r1=>
 if 0≤r1.1.1∧r1.1.1< ((x.1.2.2.2.2.2.1.length:Nat):Int) then
 ((x.1.2.2.2.2.2.1)[(r1.1.1).toNat]?).bind fun y2=>
 (F_dk ((x.1.1,(x.1.2.1,(x.1.2.2.1,(x.1.2.2.2.1,())))),r1.1.1,())).bind fun r3=>
 (F_gh (y2,r3.1.1,x.1.2.2.2.2.1,(1:Int),())).bind fun r4=>
 if 0≤r1.1.1∧r1.1.1< ((x.1.2.2.2.2.2.1.length:Nat):Int) then
 ((x.1.2.2.2.2.2.1)[(r1.1.1).toNat]?).bind fun y5=>
 let v6:=(x.1.2.2.2.2.2.1.set (r1.1.1).toNat (r4.1.1.2.2.2.1,(r4.1.1.2.2.2.2.1,(r4.1.1.2.2.2.2.2.1,(r4.1.1.2.2.2.2.2.2.1,(r4.1.1.2.2.2.2.2.2.2.1,(r4.1.1.2.2.2.2.2.2.2.2.1,(r4.1.1.2.2.2.2.2.2.2.2.2.1,(r4.1.1.2.2.2.2.2.2.2.2.2.2.1,(r4.1.1.2.2.2.2.2.2.2.2.2.2.2.1,()))))))))))
 (F_cr (x.1.2.2.1,(r1.1.1,(r4.1.1.2.2.1,())),())).bind fun r7=>
 if r7.1.1 then
 if 0≤r4.1.1.2.2.1∧r4.1.1.2.2.1< ((v6.length:Nat):Int) then
 ((v6)[(r4.1.1.2.2.1).toNat]?).bind fun y8=>
 let v9:=(v6.set (r4.1.1.2.2.1).toNat (y8.1,(y8.2.1,(y8.2.2.1,(y8.2.2.2.1,(y8.2.2.2.2.1,(true,y8.2.2.2.2.2.2)))))))
 let v10:=(IntKind.i64.wrap (x.1.2.2.2.2.2.2.2.1-(1:Int)))
 if (v10==(0:Int)) then
 let v11:=(IntKind.i64.wrap (x.1.2.2.2.2.2.2.1+(1:Int)))
 let v12:=((x.1.2.2.2.1.length:Nat):Int)
 if v12=0 then none else
 let v13:=((v11).tmod v12)
 if 0≤v13 then
 ((x.1.2.2.2.1)[(v13).toNat]?).bind fun y14=>
 let v15:=(IntKind.i64.wrap (x.1.2.2.2.2.2.2.2.2.1+(1:Int)))
 some ((),((x.1.1,(x.1.2.1,(x.1.2.2.1,(x.1.2.2.2.1,(r4.1.1.2.2.2.2.2.2.2.2.2.2.2.2.1,(v9,(v13,(y14.2.1,(v15,()))))))))),()))
 else none
 else
 let v16:=(IntKind.i64.wrap (x.1.2.2.2.2.2.2.2.2.1+(1:Int)))
 some ((),((x.1.1,(x.1.2.1,(x.1.2.2.1,(x.1.2.2.2.1,(r4.1.1.2.2.2.2.2.2.2.2.2.2.2.2.1,(v9,(x.1.2.2.2.2.2.2.1,(v10,(v16,()))))))))),()))
 else none
 else
 let v17:=(IntKind.i64.wrap (x.1.2.2.2.2.2.2.2.1-(1:Int)))
 if (v17==(0:Int)) then
 let v18:=(IntKind.i64.wrap (x.1.2.2.2.2.2.2.1+(1:Int)))
 let v19:=((x.1.2.2.2.1.length:Nat):Int)
 if v19=0 then none else
 let v20:=((v18).tmod v19)
 if 0≤v20 then
 ((x.1.2.2.2.1)[(v20).toNat]?).bind fun y21=>
 let v22:=(IntKind.i64.wrap (x.1.2.2.2.2.2.2.2.2.1+(1:Int)))
 some ((),((x.1.1,(x.1.2.1,(x.1.2.2.1,(x.1.2.2.2.1,(r4.1.1.2.2.2.2.2.2.2.2.2.2.2.2.1,(v6,(v20,(y21.2.1,(v22,()))))))))),()))
 else none
 else
 let v23:=(IntKind.i64.wrap (x.1.2.2.2.2.2.2.2.2.1+(1:Int)))
 some ((),((x.1.1,(x.1.2.1,(x.1.2.2.1,(x.1.2.2.2.1,(r4.1.1.2.2.2.2.2.2.2.2.2.2.2.2.1,(v6,(x.1.2.2.2.2.2.2.1,(v17,(v23,()))))))))),()))
 else none
 else none
abbrev C_gk:Con:=⟨P_bt,R_ap,F_gk,false⟩
theorem s_gk:Bc 33 C_gk:=fnE (Qa s_dk (Qa s_ev (Qa s_gh (Qa s_cr Qc)))) Tryz.f33
abbrev P_gl:List PK:=[.val Y32,.val Y66,.val YI,.val YI]
abbrev R_gl:List VK:=[.s (.dat Y59)]
abbrev i_gl_10:Shp:={ slots:=[(2,.s (.dat YI)),(3,.s (.dat YI)),(5,.s (.ptr 5 0)),(8,.s (.ptr 8 0)),(10,.s (.ptr 10 0)),(11,.s (.dat YI))],boxes:=[(5,[.dat Y30,.dat YI,.dat Y30,.dat .bool,.dat .bool,.dat .bool,.dat YI,.dat Y30,.dat Y30,.dat Y26,.dat Y30]),(8,[.dat YI,.dat YI,.dat .bool]),(10,[.dat Y24,.dat Y25,.dat Y26,.dat Y26,.own 2 YI,.own 46 Y45,.dat YI,.dat YI,.dat YI])],rows:=[] }
abbrev o_gl_10:List (Ex×Shp):=[(.ret,{ slots:=[(8,.s (.ptr 8 0))],boxes:=[(8,[.dat YI,.dat YI,.dat .bool])],rows:=[] })]
def l_gl_10 (rec:i_gl_10.den→Option (denO o_gl_10)) (u:i_gl_10.den):Option (denO o_gl_10):=
 (F_ep (((u.2.1.2.2.1.1,(u.2.1.2.2.1.2.1,(u.2.1.2.2.1.2.2.1,(u.2.1.2.2.1.2.2.2.1,())))),(u.2.1.2.2.1.2.2.2.2.1,(u.2.1.2.2.1.2.2.2.2.2.1,(u.2.1.2.2.1.2.2.2.2.2.2.1,(u.2.1.2.2.1.2.2.2.2.2.2.2.1,(u.2.1.2.2.1.2.2.2.2.2.2.2.2.1,())))))),u.1.1,())).bind fun r22=>
 (F_eq (((u.2.1.1.1,(u.2.1.1.2.1,(u.2.1.1.2.2.1,(u.2.1.1.2.2.2.1,(u.2.1.1.2.2.2.2.1,(u.2.1.1.2.2.2.2.2.1,(u.2.1.1.2.2.2.2.2.2.1,(u.2.1.1.2.2.2.2.2.2.2.1,(u.2.1.1.2.2.2.2.2.2.2.2.1,()))))))))),(u.2.1.1.2.2.2.2.2.2.2.2.2.1,(u.2.1.1.2.2.2.2.2.2.2.2.2.2.1,()))),(u.2.1.2.2.1.1,(u.2.1.2.2.1.2.1,(u.2.1.2.2.1.2.2.1,(u.2.1.2.2.1.2.2.2.1,())))),u.1.1,())).bind fun r23=>
 (F_eu (((r22.1.1.1,(r22.1.1.2.1,(r22.1.1.2.2.1,(r22.1.1.2.2.2.1,(r22.1.1.2.2.2.2.1,(r22.1.1.2.2.2.2.2.1,(r22.1.1.2.2.2.2.2.2.1,(r22.1.1.2.2.2.2.2.2.2.1,(r22.1.1.2.2.2.2.2.2.2.2.1,()))))))))),(r22.1.1.2.2.2.2.2.2.2.2.2.1,(r22.1.1.2.2.2.2.2.2.2.2.2.2.1,()))),((r23.1.1.1,(r23.1.1.2.1,(r23.1.1.2.2.1,(r23.1.1.2.2.2.1,(r23.1.1.2.2.2.2.1,(r23.1.1.2.2.2.2.2.1,(r23.1.1.2.2.2.2.2.2.1,(r23.1.1.2.2.2.2.2.2.2.1,(r23.1.1.2.2.2.2.2.2.2.2.1,()))))))))),(r23.1.1.2.2.2.2.2.2.2.2.2.1,(r23.1.1.2.2.2.2.2.2.2.2.2.2.1,()))),())).bind fun r24=>
 if (!r24.1.1) then
 some (.inl (((),()),((((0:Int),(u.1.2.2.2.2.2.1,(false,()))),()),())))
 else
 if (u.1.2.2.2.2.2.1==u.1.2.1) then
 some (.inl (((),()),((((0:Int),((0:Int),(true,()))),()),())))
 else
 (F_ev (((u.2.1.2.2.1.1,(u.2.1.2.2.1.2.1,(u.2.1.2.2.1.2.2.1,(u.2.1.2.2.1.2.2.2.1,())))),(u.2.1.2.2.1.2.2.2.2.1,(u.2.1.2.2.1.2.2.2.2.2.1,(u.2.1.2.2.1.2.2.2.2.2.2.1,(u.2.1.2.2.1.2.2.2.2.2.2.2.1,(u.2.1.2.2.1.2.2.2.2.2.2.2.2.1,())))))),())).bind fun r25=>
 if (r25.1.1==u.1.1) then
 (F_gj (((u.2.1.2.2.1.1,(u.2.1.2.2.1.2.1,(u.2.1.2.2.1.2.2.1,(u.2.1.2.2.1.2.2.2.1,())))),(u.2.1.2.2.1.2.2.2.2.1,(u.2.1.2.2.1.2.2.2.2.2.1,(u.2.1.2.2.1.2.2.2.2.2.2.1,(u.2.1.2.2.1.2.2.2.2.2.2.2.1,(u.2.1.2.2.1.2.2.2.2.2.2.2.2.1,())))))),((u.2.1.1.1,(u.2.1.1.2.1,(u.2.1.1.2.2.1,(u.2.1.1.2.2.2.1,(u.2.1.1.2.2.2.2.1,(u.2.1.1.2.2.2.2.2.1,(u.2.1.1.2.2.2.2.2.2.1,(u.2.1.1.2.2.2.2.2.2.2.1,(u.2.1.1.2.2.2.2.2.2.2.2.1,()))))))))),(u.2.1.1.2.2.2.2.2.2.2.2.2.1,(u.2.1.1.2.2.2.2.2.2.2.2.2.2.1,()))),u.1.1,())).bind fun r26=>
 (F_gk (u.2.1.2.2.1,())).bind fun r27=>
 let v28:=(IntKind.i64.wrap (u.1.2.2.2.2.2.1+(1:Int)))
 rec ((u.1.1,(u.1.2.1,((),((),((),(v28,())))))),((r26.1.1,(u.2.1.2.1,(r27.2.1,()))),()))
 else
 (F_gk (u.2.1.2.2.1,())).bind fun r29=>
 let v30:=(IntKind.i64.wrap (u.1.2.2.2.2.2.1+(1:Int)))
 rec ((u.1.1,(u.1.2.1,((),((),((),(v30,())))))),((u.2.1.1,(u.2.1.2.1,(r29.2.1,()))),()))
def L_gl_10 (x:i_gl_10.den):Option (denO o_gl_10):=Qb l_gl_10 lots x
def F_gl (x:denP P_gl):FO P_gl R_gl:=
 (F_df (x.1,())).bind fun r1=>
 (F_ec (x.2.1,())).bind fun r2=>
 (F_eb ([r1.1.1,r2.1.1],())).bind fun r3=>
 if (r3.1.1==(0:Int))=true then
 (F_ce (x.1.1,x.2.2.1,())).bind fun r4=>
 if (!r4.1.1) then
 (F_ed (x.2.2.2.1,[x.1],())).bind fun r5=>
 (F_eb ([(4:Int),r5.1.1],())).bind fun r6=>
 if (r6.1.1 !=(0:Int)) then
 some (((r6.1.1,((0:Int),(false,()))),()),())
 else
 (F_en (x.1,())).bind fun r7=>
 (L_gl_10 ((x.2.2.1,(x.2.2.2.1,((),((),((),((0:Int),())))))),(((x.2.1.1.1,(x.2.1.1.2.1,(x.2.1.1.2.2.1,(x.2.1.1.2.2.2.1,(x.2.1.1.2.2.2.2.1,(x.2.1.1.2.2.2.2.2.1,(x.2.1.1.2.2.2.2.2.2.1,(x.2.1.1.2.2.2.2.2.2.2.1,(x.2.1.1.2.2.2.2.2.2.2.2.1,(x.2.1.2.1,(x.2.1.2.2.1,()))))))))))),(((0:Int),((0:Int),(false,()))),(r7.1.1,()))),()))).bind fun z31=>
 match z31 with
 | .inl x32=>
  some ((x32.2.1.1,()),())
 | .inr z31_=>
  none
 else
 (F_ed (x.2.2.2.1,[x.1],())).bind fun r33=>
 (F_eb ([r3.1.1,r33.1.1],())).bind fun r34=>
 if (r34.1.1 !=(0:Int)) then
 some (((r34.1.1,((0:Int),(false,()))),()),())
 else
 (F_en (x.1,())).bind fun r35=>
 (L_gl_10 ((x.2.2.1,(x.2.2.2.1,((),((),((),((0:Int),())))))),(((x.2.1.1.1,(x.2.1.1.2.1,(x.2.1.1.2.2.1,(x.2.1.1.2.2.2.1,(x.2.1.1.2.2.2.2.1,(x.2.1.1.2.2.2.2.2.1,(x.2.1.1.2.2.2.2.2.2.1,(x.2.1.1.2.2.2.2.2.2.2.1,(x.2.1.1.2.2.2.2.2.2.2.2.1,(x.2.1.2.1,(x.2.1.2.2.1,()))))))))))),(((0:Int),((0:Int),(false,()))),(r35.1.1,()))),()))).bind fun z36=>
 match z36 with
 | .inl x37=>
  some ((x37.2.1.1,()),())
 | .inr z36_=>
  none
 else
 (F_ed (x.2.2.2.1,[x.1],())).bind fun r38=>
 (F_eb ([r3.1.1,r38.1.1],())).bind fun r39=>
 if (r39.1.1 !=(0:Int)) then
 some (((r39.1.1,((0:Int),(false,()))),()),())
 else
 (F_en (x.1,())).bind fun r40=>
 (L_gl_10 ((x.2.2.1,(x.2.2.2.1,((),((),((),((0:Int),())))))),(((x.2.1.1.1,(x.2.1.1.2.1,(x.2.1.1.2.2.1,(x.2.1.1.2.2.2.1,(x.2.1.1.2.2.2.2.1,(x.2.1.1.2.2.2.2.2.1,(x.2.1.1.2.2.2.2.2.2.1,(x.2.1.1.2.2.2.2.2.2.2.1,(x.2.1.1.2.2.2.2.2.2.2.2.1,(x.2.1.2.1,(x.2.1.2.2.1,()))))))))))),(((0:Int),((0:Int),(false,()))),(r40.1.1,()))),()))).bind fun z41=>
 match z41 with
 | .inl x42=>
  some ((x42.2.1.1,()),())
 | .inr z41_=>
  none
abbrev C_gl:Con:=⟨P_gl,R_gl,F_gl,false⟩
abbrev G_gl:Env:=[(15,C_df),(28,C_ec),(32,C_en),(33,C_gk),(40,C_eb),(44,C_ce),(45,C_ep),(57,C_ed),(66,C_eu),(67,C_eq),(68,C_ev),(69,C_gj)]
theorem g_gl:Be G_gl:=(Qa s_df (Qa s_ec (Qa s_en (Qa s_gk (Qa s_eb (Qa s_ce (Qa s_ep (Qa s_ed (Qa s_eu (Qa s_eq (Qa s_ev (Qa s_gj Qc))))))))))))
abbrev c_gl_10:Cut:=⟨i_gl_10,o_gl_10,fun x=>Qb l_gl_10 lots x⟩
theorem k_gl_10:Bu 62 (.loop (nav Tryz.f25 [1,1,1,1,1,1,0,0])) c_gl_10:=
  Qd (L:=[]) hT g_gl (fun _ _=>by kernel_rfl) okP _
theorem r_gl (x):QA T G_gl [(10,c_gl_10)] Tryz.f25 C_gl.ps C_gl.rs x=C_gl.F x:=by kernel_rfl
theorem s_gl:Bc 25 C_gl:=fnC (L:=[(10,c_gl_10)]) hT g_gl Tryz.f25 (okS okP (okS okP (okS okP (okS okP (okS okP (okS okP (okB (okU k_gl_10)))))))) r_gl
def F_gm (x:denP P_n):FO P_n R_gl:=
 some (((x.1,((0:Int),(false,()))),()),())
abbrev C_gm:Con:=⟨P_n,R_gl,F_gm,false⟩
theorem s_gm:Bc 70 C_gm:=fnE g_a Tryz.f70
abbrev i_gn_6:Shp:={ slots:=[(0,.s (.dat Y26)),(1,.s (.dat YI)),(5,.s (.dat YI))],boxes:=[],rows:=[] }
def l_gn_6 (rec:i_gn_6.den→Option (denO o_j_2)) (u:i_gn_6.den):Option (denO o_j_2):=
 let v9:=((u.1.1.length:Nat):Int)
 if (ltI u.1.2.2.1 v9) then
 if 0≤u.1.2.2.1 then
 ((u.1.1)[(u.1.2.2.1).toNat]?).bind fun y10=>
 let v11:=(IntKind.i64.wrap (u.1.2.1-(1:Int)))
 (F_e (y10.1,(-1:Int),v11,())).bind fun r12=>
 if (!r12.1.1)=false then
 if 0≤u.1.2.2.1 then
 ((u.1.1)[(u.1.2.2.1).toNat]?).bind fun y13=>
 (F_e (y13.2.1,(0:Int),(7:Int),())).bind fun r14=>
 if (!r14.1.1) then
 some (.inr (.inl (((3:Int),()),((),()))))
 else
 if 0≤u.1.2.2.1 then
 ((u.1.1)[(u.1.2.2.1).toNat]?).bind fun y15=>
 if (ltI y15.1 (0:Int))=true then
 if 0≤u.1.2.2.1 then
 ((u.1.1)[(u.1.2.2.1).toNat]?).bind fun y16=>
 if (y16.2.1 !=(0:Int)) then
 some (.inr (.inl (((1:Int),()),((),()))))
 else
 let v17:=(IntKind.i64.wrap (u.1.2.2.1+(1:Int)))
 rec ((u.1.1,(u.1.2.1,(v17,()))),((),()))
 else none
 else
 let v18:=(IntKind.i64.wrap (u.1.2.2.1+(1:Int)))
 rec ((u.1.1,(u.1.2.1,(v18,()))),((),()))
 else none
 else none
 else
 some (.inr (.inl (((3:Int),()),((),()))))
 else none
 else
 some (.inl ((),((),())))
def L_gn_6 (x:i_gn_6.den):Option (denO o_j_2):=Qb l_gn_6 lots x
def F_gn (x:denP P_dj):FO P_dj R_c:=
 (F_e (x.2.1,(1:Int),(24:Int),())).bind fun r1=>
 if (!r1.1.1) then
 some (((3:Int),()),())
 else
 let v2:=((x.1.length:Nat):Int)
 if (v2 !=(8:Int)) then
 some (((1:Int),()),())
 else
 (L_gn_6 ((x.1,(x.2.1,((0:Int),()))),((),()))).bind fun z19=>
 match z19 with
 | .inl x20=>
  some (((0:Int),()),())
 | .inr z19_=>
  match z19_ with
  | .inl x21=>
   some ((x21.1.1,()),())
  | .inr z19__=>
   none
abbrev C_gn:Con:=⟨P_dj,R_c,F_gn,false⟩
theorem g_gn:Be G_h:=(Qa s_e Qc)
abbrev c_gn_6:Cut:=⟨i_gn_6,o_j_2,fun x=>Qb l_gn_6 lots x⟩
theorem k_gn_6:Bu 50 (.loop (nav Tryz.f125 [1,1,1,0,1,0,0])) c_gn_6:=
  Qd (L:=[]) hT g_gn (fun _ _=>by kernel_rfl) okP _
theorem r_gn (x):QA T G_h [(6,c_gn_6)] Tryz.f125 C_gn.ps C_gn.rs x=C_gn.F x:=by kernel_rfl
theorem s_gn:Bc 125 C_gn:=fnC (L:=[(6,c_gn_6)]) hT g_gn Tryz.f125 (okS okP (okS okP (okS okP (okS (okS okP (okB (okU k_gn_6))) okP)))) r_gn
def F_go (x:denP P_ec):FO P_ec R_c:=
 (F_ds (x.1.1,())).bind fun r1=>
 if (r1.1.1 !=(0:Int)) then
 some ((r1.1.1,()),())
 else
 (F_gn (x.1.2.1,(8:Int),())).bind fun r2=>
 if (r2.1.1 !=(0:Int)) then
 some ((r2.1.1,()),())
 else
 (F_dq (x.1.2.2.1,())).bind fun r3=>
 if (r3.1.1 !=(0:Int))=false then
 let v4:=((x.1.2.2.1.length:Nat):Int)
 if (v4 !=(64:Int)) then
 some (((1:Int),()),())
 else
 some (((0:Int),()),())
 else
 some (((1:Int),()),())
abbrev C_go:Con:=⟨P_ec,R_c,F_go,false⟩
theorem s_go:Bc 71 C_go:=fnE (Qa s_ds (Qa s_gn (Qa s_dq Qc))) Tryz.f71
def F_gp (x:denP P_dy):FO P_dy R_a:=
 (F_e (x.2.1,(0:Int),(200:Int),())).bind fun r1=>
 if r1.1.1=true then
 let v2:=(IntKind.i64.wrap (x.1.2.2.2.2.2.1+x.2.1))
 some (((leI v2 (1000000:Int)),()),())
 else
 some ((false,()),())
abbrev C_gp:Con:=⟨P_dy,R_a,F_gp,false⟩
theorem s_gp:Bc 72 C_gp:=fnE (Qa s_e Qc) Tryz.f72
abbrev i_gq_3:Shp:={ slots:=[(1,.s (.ptr 1 0)),(2,.s (.ptr 2 0)),(3,.s (.ptr 3 0)),(4,.s (.dat YI))],boxes:=[(1,[.dat Y24,.dat Y25,.dat Y26,.dat Y26,.dat Y30,.dat Y31,.dat YI,.dat YI,.dat YI]),(2,[.own 30 Y30,.own 123 Y122,.own 53 Y38,.own 39 Y38,.own 2 YI,.own 46 Y45,.dat YI,.dat YI,.dat YI]),(3,[.own 30 Y30,.own 123 Y122,.own 53 Y38,.own 39 Y38,.own 2 YI,.own 46 Y45,.dat YI,.dat YI,.dat YI])],rows:=[] }
abbrev o_gq_3:List (Ex×Shp):=[(.exit 0,{ slots:=[(2,.s (.ptr 2 0)),(3,.s (.ptr 3 0))],boxes:=[(2,[.own 30 Y30,.own 123 Y122,.own 53 Y38,.own 39 Y38,.own 2 YI,.own 46 Y45,.dat YI,.dat YI,.dat YI]),(3,[.own 30 Y30,.own 123 Y122,.own 53 Y38,.own 39 Y38,.own 2 YI,.own 46 Y45,.dat YI,.dat YI,.dat YI])],rows:=[] })]
def l_gq_3 (rec:i_gq_3.den→Option (denO o_gq_3)) (u:i_gq_3.den):Option (denO o_gq_3):=
 let v5:=((u.2.1.1.2.2.2.2.2.1.length:Nat):Int)
 if (ltI u.1.2.2.2.1 v5) then
 if 0≤u.1.2.2.2.1 then
 ((u.2.1.1.2.2.2.2.2.1)[(u.1.2.2.2.1).toNat]?).bind fun y6=>
 (F_al (y6,())).bind fun r7=>
 if (u.2.1.2.2.1.2.2.2.2.2.1.length+[r7.1.1].length)*120≤140737488355328 then
 let v8:=(u.2.1.2.2.1.2.2.2.2.2.1++[r7.1.1])
 let v9:=(IntKind.i64.wrap (u.1.2.2.2.1+(1:Int)))
 rec (((),((),((),(v9,())))),((u.2.1.1,(u.2.1.2.1,((u.2.1.2.2.1.1,(u.2.1.2.2.1.2.1,(u.2.1.2.2.1.2.2.1,(u.2.1.2.2.1.2.2.2.1,(u.2.1.2.2.1.2.2.2.2.1,(v8,(u.2.1.2.2.1.2.2.2.2.2.2.1,(u.2.1.2.2.1.2.2.2.2.2.2.2.1,(u.2.1.2.2.1.2.2.2.2.2.2.2.2.1,()))))))))),()))),()))
 else none
 else none
 else
 some (.inl (((),((),())),((u.2.1.2.1,(u.2.1.2.2.1,())),())))
def L_gq_3 (x:i_gq_3.den):Option (denO o_gq_3):=Qb l_gq_3 lots x
def F_gq (x:denP P_df):FO P_df R_ah:=
 (F_ac (x.1.1,())).bind fun r1=>
 (F_ak (x.1.2.1,())).bind fun r2=>
 (L_gq_3 (((),((),((),((0:Int),())))),(((x.1.1.1,(x.1.1.2.1,(x.1.1.2.2.1,(x.1.1.2.2.2.1,(x.1.2.1,(x.1.2.2.1,(x.1.2.2.2.1,(x.1.2.2.2.2.1,(x.1.2.2.2.2.2.1,()))))))))),((([]:List (den Y30)),(([]:List (den Y122)),(([]:List (den Y38)),(([]:List (den Y38)),(([]:List (den YI)),(([]:List (den Y45)),((0:Int),((0:Int),((0:Int),()))))))))),((r1.1.1.1,(r1.1.1.2.1,(r1.1.1.2.2.1,(r1.1.1.2.2.2.1,(r2.1.1,(([]:List (den Y45)),(x.1.2.2.2.1,(x.1.2.2.2.2.1,(x.1.2.2.2.2.2.1,()))))))))),()))),()))).bind fun z10=>
 match z10 with
 | .inl x11=>
  some ((x11.2.1.2.1,()),())
 | .inr z10_=>
  none
abbrev C_gq:Con:=⟨P_df,R_ah,F_gq,false⟩
abbrev G_gq:Env:=[(96,C_ac),(97,C_ak),(98,C_al)]
theorem g_gq:Be G_gq:=(Qa s_ac (Qa s_ak (Qa s_al Qc)))
abbrev c_gq_3:Cut:=⟨i_gq_3,o_gq_3,fun x=>Qb l_gq_3 lots x⟩
theorem k_gq_3:Bu 37 (.loop (nav Tryz.f35 [1,1,0,1,0,0])) c_gq_3:=
  Qd (L:=[]) hT g_gq (fun _ _=>by kernel_rfl) okP _
theorem r_gq (x):QA T G_gq [(3,c_gq_3)] Tryz.f35 C_gq.ps C_gq.rs x=C_gq.F x:=by kernel_rfl
theorem s_gq:Bc 35 C_gq:=fnC (L:=[(3,c_gq_3)]) hT g_gq Tryz.f35 (okS okP (okS okP (okS (okS okP (okB (okU k_gq_3))) okP))) r_gq
def F_gr (x:denP P_ec):FO P_ec R_ey:=
 (F_al (x.1.1,())).bind fun r1=>
 if (([]:List (den Y38)).length+x.1.2.1.length)*16≤140737488355328 then
 let v2:=(([]:List (den Y38))++x.1.2.1)
 (F_ak (x.1.2.2.1,())).bind fun r3=>
 some (((r1.1.1.1,(r1.1.1.2.1,(r1.1.1.2.2.1,(r1.1.1.2.2.2.1,(r1.1.1.2.2.2.2.1,(r1.1.1.2.2.2.2.2.1,(r1.1.1.2.2.2.2.2.2.1,(r1.1.1.2.2.2.2.2.2.2.1,(r1.1.1.2.2.2.2.2.2.2.2.1,(v2,(r3.1.1,()))))))))))),()),())
 else none
abbrev C_gr:Con:=⟨P_ec,R_ey,F_gr,false⟩
theorem s_gr:Bc 73 C_gr:=fnE (Qa s_ak (Qa s_al Qc)) Tryz.f73
abbrev P_gs:List PK:=[.ptr Y28,.val YI,.val .bool]
abbrev i_gs_3:Shp:={ slots:=[(0,.s (.pd Y28)),(1,.s (.dat YI)),(2,.s (.dat .bool)),(7,.s (.own 2 YI)),(8,.s (.dat YI))],boxes:=[],rows:=[] }
abbrev o_gs_3:List (Ex×Shp):=[(.exit 0,{ slots:=[(7,.s (.own 2 YI))],boxes:=[],rows:=[] })]
def l_gs_3 (rec:i_gs_3.den→Option (denO o_gs_3)) (u:i_gs_3.den):Option (denO o_gs_3):=
 let v4:=((u.1.1.2.1.length:Nat):Int)
 if (ltI u.1.2.2.2.2.1 v4) then
 if 0≤u.1.2.2.2.2.1 then
 ((u.1.1.2.1)[(u.1.2.2.2.2.1).toNat]?).bind fun y5=>
 if (y5.1 !=u.1.2.1) then
 let v6:=(IntKind.i64.wrap (u.1.2.2.2.2.1+(1:Int)))
 rec ((u.1.1,(u.1.2.1,(u.1.2.2.1,(u.1.2.2.2.1,(v6,()))))),((),()))
 else
 if u.1.2.2.1 then
 if 0≤u.1.2.2.2.2.1 then
 ((u.1.1.2.1)[(u.1.2.2.2.2.1).toNat]?).bind fun y7=>
 if (u.1.2.2.2.1.length+[y7.2.2.1].length)*8≤140737488355328 then
 let v8:=(u.1.2.2.2.1++[y7.2.2.1])
 let v9:=(IntKind.i64.wrap (u.1.2.2.2.2.1+(1:Int)))
 rec ((u.1.1,(u.1.2.1,(u.1.2.2.1,(v8,(v9,()))))),((),()))
 else none
 else none
 else
 if 0≤u.1.2.2.2.2.1 then
 ((u.1.1.2.1)[(u.1.2.2.2.2.1).toNat]?).bind fun y10=>
 if (u.1.2.2.2.1.length+[y10.2.2.2.1].length)*8≤140737488355328 then
 let v11:=(u.1.2.2.2.1++[y10.2.2.2.1])
 let v12:=(IntKind.i64.wrap (u.1.2.2.2.2.1+(1:Int)))
 rec ((u.1.1,(u.1.2.1,(u.1.2.2.1,(v11,(v12,()))))),((),()))
 else none
 else none
 else none
 else
 some (.inl ((u.1.2.2.2.1,()),((),())))
def L_gs_3 (x:i_gs_3.den):Option (denO o_gs_3):=Qb l_gs_3 lots x
def F_gs (x:denP P_gs):FO P_gs R_u:=
 (L_gs_3 ((x.1,(x.2.1,(x.2.2.1,(([]:List (den YI)),((0:Int),()))))),((),()))).bind fun z13=>
 match z13 with
 | .inl x14=>
  some ((x14.1.1,()),())
 | .inr z13_=>
  none
abbrev C_gs:Con:=⟨P_gs,R_u,F_gs,false⟩
abbrev c_gs_3:Cut:=⟨i_gs_3,o_gs_3,fun x=>Qb l_gs_3 lots x⟩
theorem k_gs_3:Bu 53 (.loop (nav Tryz.f176 [1,1,0,1,0,0])) c_gs_3:=
  Qd (L:=[]) hT g_a (fun _ _=>by kernel_rfl) okP _
theorem r_gs (x):QA T G_a [(3,c_gs_3)] Tryz.f176 C_gs.ps C_gs.rs x=C_gs.F x:=by kernel_rfl
theorem s_gs:Bc 176 C_gs:=fnC (L:=[(3,c_gs_3)]) hT g_a Tryz.f176 (okS okP (okS okP (okS (okS okP (okB (okU k_gs_3))) okP))) r_gs
def F_gt (x:denP P_dy):FO P_dy R_ep:=
 if 0≤x.2.1 then
 ((x.1.2.2.1)[(x.2.1).toNat]?).bind fun y1=>
 (F_al (y1,())).bind fun r2=>
 if 0≤x.2.1 then
 ((x.1.1.1)[(x.2.1).toNat]?).bind fun y3=>
 (F_dw (x.1.2.1,y3,())).bind fun r4=>
 (F_gs (x.1.1,x.2.1,true,())).bind fun r5=>
 (F_dw (x.1.2.1,r5.1.1,())).bind fun r6=>
 some (((r2.1.1.1,(r2.1.1.2.1,(r2.1.1.2.2.1,(r2.1.1.2.2.2.1,(r2.1.1.2.2.2.2.1,(r2.1.1.2.2.2.2.2.1,(r2.1.1.2.2.2.2.2.2.1,(r2.1.1.2.2.2.2.2.2.2.1,(r2.1.1.2.2.2.2.2.2.2.2.1,(r4.1.1,(r6.1.1,()))))))))))),()),())
 else none
 else none
abbrev C_gt:Con:=⟨P_dy,R_ep,F_gt,false⟩
theorem s_gt:Bc 127 C_gt:=fnE (Qa s_dw (Qa s_al (Qa s_gs Qc))) Tryz.f127
def F_gu (x:denP P_h):FO P_h R_c:=
 (F_x (x.1,())).bind fun r1=>
 if (r1.1.1 !=(0:Int)) then
 some ((r1.1.1,()),())
 else
 (F_h (x.1,x.2.1,())).bind fun r2=>
 if (!r2.1.1) then
 some (((4:Int),()),())
 else
 some (((0:Int),()),())
abbrev C_gu:Con:=⟨P_h,R_c,F_gu,false⟩
theorem s_gu:Bc 177 C_gu:=fnE (Qa s_h (Qa s_x Qc)) Tryz.f177
abbrev P_gv:List PK:=[.val Y28,.val Y66,.val YI]
abbrev R_gv:List VK:=[.g [.dat YI,.own 2 YI,.dat YI,.own 2 YI,.dat .bool,.dat .bool,.dat .bool,.dat YI,.own 2 YI,.own 2 YI,.own 2 YI,.own 2 YI]]
abbrev i_gv_9:Shp:={ slots:=[(2,.s (.dat YI)),(3,.s (.ptr 3 0)),(4,.s (.ptr 4 0)),(6,.s (.ptr 6 0)),(9,.s (.own 2 YI)),(10,.s (.dat YI))],boxes:=[(3,[.dat Y24,.dat Y25,.dat Y26,.dat Y26]),(4,[.dat Y30,.dat YI,.dat Y30,.dat .bool,.dat .bool,.dat .bool,.dat YI,.dat Y30,.dat Y30,.dat Y26,.dat Y30]),(6,[.dat YI,.own 2 YI,.dat YI,.own 2 YI,.dat .bool,.dat .bool,.dat .bool,.dat YI,.own 2 YI,.own 2 YI,.own 2 YI,.own 2 YI])],rows:=[] }
abbrev o_gv_9:List (Ex×Shp):=[(.exit 0,{ slots:=[(2,.s (.dat YI)),(3,.s (.ptr 3 0)),(4,.s (.ptr 4 0)),(6,.s (.ptr 6 0)),(9,.s (.own 2 YI))],boxes:=[(3,[.dat Y24,.dat Y25,.dat Y26,.dat Y26]),(4,[.dat Y30,.dat YI,.dat Y30,.dat .bool,.dat .bool,.dat .bool,.dat YI,.dat Y30,.dat Y30,.dat Y26,.dat Y30]),(6,[.dat YI,.own 2 YI,.dat YI,.own 2 YI,.dat .bool,.dat .bool,.dat .bool,.dat YI,.own 2 YI,.own 2 YI,.own 2 YI,.own 2 YI])],rows:=[] })]
def l_gv_9 (rec:i_gv_9.den→Option (denO o_gv_9)) (u:i_gv_9.den):Option (denO o_gv_9):=
 if 0≤u.1.1 then
 ((u.2.1.1.1)[(u.1.1).toNat]?).bind fun y4=>
 let v5:=((y4.length:Nat):Int)
 if (ltI u.1.2.2.2.2.2.1 v5) then
 if (u.1.2.2.2.2.1.length+[u.1.2.2.2.2.2.1].length)*8≤140737488355328 then
 let v6:=(u.1.2.2.2.2.1++[u.1.2.2.2.2.2.1])
 let v7:=(IntKind.i64.wrap (u.1.2.2.2.2.2.1+(1:Int)))
 rec ((u.1.1,((),((),((),(v6,(v7,())))))),((u.2.1.1,(u.2.1.2.1,(u.2.1.2.2.1,()))),()))
 else none
 else
 some (.inl ((u.1.1,((),((),((),(u.1.2.2.2.2.1,()))))),((u.2.1.1,(u.2.1.2.1,(u.2.1.2.2.1,()))),())))
 else none
def L_gv_9 (x:i_gv_9.den):Option (denO o_gv_9):=Qb l_gv_9 lots x
def F_gv (x:denP P_gv):FO P_gv R_gv:=
 (F_gu (x.1,x.2.2.1,())).bind fun r1=>
 if (r1.1.1 !=(0:Int)) then
 some (((r1.1.1,(([]:List (den YI)),((0:Int),(([]:List (den YI)),(false,(false,(false,((0:Int),(([]:List (den YI)),(([]:List (den YI)),(([]:List (den YI)),(([]:List (den YI)),())))))))))))),()),())
 else
 (F_go (x.2.1,())).bind fun r2=>
 if (r2.1.1 !=(0:Int)) then
 some (((r2.1.1,(([]:List (den YI)),((0:Int),(([]:List (den YI)),(false,(false,(false,((0:Int),(([]:List (den YI)),(([]:List (den YI)),(([]:List (den YI)),(([]:List (den YI)),())))))))))))),()),())
 else
 (L_gv_9 ((x.2.2.1,((),((),((),(([]:List (den YI)),((0:Int),())))))),(((x.1.1,(x.1.2.1,(x.1.2.2.1,(x.1.2.2.2.1,())))),((x.2.1.1.1,(x.2.1.1.2.1,(x.2.1.1.2.2.1,(x.2.1.1.2.2.2.1,(x.2.1.1.2.2.2.2.1,(x.2.1.1.2.2.2.2.2.1,(x.2.1.1.2.2.2.2.2.2.1,(x.2.1.1.2.2.2.2.2.2.2.1,(x.2.1.1.2.2.2.2.2.2.2.2.1,(x.2.1.2.1,(x.2.1.2.2.1,()))))))))))),(((0:Int),(([]:List (den YI)),((0:Int),(([]:List (den YI)),(false,(false,(false,((0:Int),(([]:List (den YI)),(([]:List (den YI)),(([]:List (den YI)),(([]:List (den YI)),())))))))))))),()))),()))).bind fun z8=>
 match z8 with
 | .inl x9=>
  (F_al ((x9.2.1.2.1.1,(x9.2.1.2.1.2.1,(x9.2.1.2.1.2.2.1,(x9.2.1.2.1.2.2.2.1,(x9.2.1.2.1.2.2.2.2.1,(x9.2.1.2.1.2.2.2.2.2.1,(x9.2.1.2.1.2.2.2.2.2.2.1,(x9.2.1.2.1.2.2.2.2.2.2.2.1,(x9.2.1.2.1.2.2.2.2.2.2.2.2.1,()))))))))),())).bind fun r10=>
  (F_dw (x9.2.1.2.1.2.2.2.2.2.2.2.2.2.2.1,x9.1.2.2.2.2.1,())).bind fun r11=>
  (F_gs (x9.2.1.1,x9.1.1,false,())).bind fun r12=>
  (F_dw (x9.2.1.2.1.2.2.2.2.2.2.2.2.2.2.1,r12.1.1,())).bind fun r13=>
  some ((((0:Int),(r10.1.1.1,(r10.1.1.2.1,(r10.1.1.2.2.1,(r10.1.1.2.2.2.1,(r10.1.1.2.2.2.2.1,(r10.1.1.2.2.2.2.2.1,(r10.1.1.2.2.2.2.2.2.1,(r10.1.1.2.2.2.2.2.2.2.1,(r10.1.1.2.2.2.2.2.2.2.2.1,(r11.1.1,(r13.1.1,())))))))))))),()),())
 | .inr z8_=>
  none
abbrev C_gv:Con:=⟨P_gv,R_gv,F_gv,false⟩
abbrev G_gv:Env:=[(71,C_go),(76,C_dw),(98,C_al),(176,C_gs),(177,C_gu)]
theorem g_gv:Be G_gv:=(Qa s_go (Qa s_dw (Qa s_al (Qa s_gs (Qa s_gu Qc)))))
abbrev c_gv_9:Cut:=⟨i_gv_9,o_gv_9,fun x=>Qb l_gv_9 lots x⟩
theorem k_gv_9:Bu 52 (.loop (nav Tryz.f128 [1,1,1,1,0,1,0,0])) c_gv_9:=
  Qd (L:=[]) hT g_gv (fun _ _=>by kernel_rfl) okP _
theorem r_gv (x):QA T G_gv [(9,c_gv_9)] Tryz.f128 C_gv.ps C_gv.rs x=C_gv.F x:=by kernel_rfl
theorem s_gv:Bc 128 C_gv:=fnC (L:=[(9,c_gv_9)]) hT g_gv Tryz.f128 (okS okP (okS okP (okS okP (okS okP (okS (okS okP (okB (okU k_gv_9))) okP))))) r_gv
abbrev i_gw_4:Shp:={ slots:=[(0,.s (.dat Y30)),(1,.s (.dat Y30)),(5,.s (.dat YI))],boxes:=[],rows:=[] }
def l_gw_4 (rec:i_gw_4.den→Option (denO o_f_2)) (u:i_gw_4.den):Option (denO o_f_2):=
 let v5:=((u.1.1.length:Nat):Int)
 if (ltI u.1.2.2.1 v5) then
 if 0≤u.1.2.2.1 then
 ((u.1.1)[(u.1.2.2.1).toNat]?).bind fun y6=>
 if 0≤u.1.2.2.1 then
 ((u.1.2.1)[(u.1.2.2.1).toNat]?).bind fun y7=>
 if (y6 !=y7) then
 some (.inr (.inl ((false,()),((),()))))
 else
 let v8:=(IntKind.i64.wrap (u.1.2.2.1+(1:Int)))
 rec ((u.1.1,(u.1.2.1,(v8,()))),((),()))
 else none
 else none
 else
 some (.inl ((),((),())))
def L_gw_4 (x:i_gw_4.den):Option (denO o_f_2):=Qb l_gw_4 lots x
def F_gw (x:denP P_dw):FO P_dw R_a:=
 let v1:=((x.1.length:Nat):Int)
 let v2:=((x.2.1.length:Nat):Int)
 if (v1 !=v2) then
 some ((false,()),())
 else
 (L_gw_4 ((x.1,(x.2.1,((0:Int),()))),((),()))).bind fun z9=>
 match z9 with
 | .inl x10=>
  some ((true,()),())
 | .inr z9_=>
  match z9_ with
  | .inl x11=>
   some ((x11.1.1,()),())
  | .inr z9__=>
   none
abbrev C_gw:Con:=⟨P_dw,R_a,F_gw,false⟩
abbrev c_gw_4:Cut:=⟨i_gw_4,o_f_2,fun x=>Qb l_gw_4 lots x⟩
theorem k_gw_4:Bu 26 (.loop (nav Tryz.f179 [1,1,0,1,0,0])) c_gw_4:=
  Qd (L:=[]) hT g_a (fun _ _=>by kernel_rfl) okP _
theorem r_gw (x):QA T G_a [(4,c_gw_4)] Tryz.f179 C_gw.ps C_gw.rs x=C_gw.F x:=by kernel_rfl
theorem s_gw:Bc 179 C_gw:=fnC (L:=[(4,c_gw_4)]) hT g_a Tryz.f179 (okS okP (okS okP (okS (okS okP (okB (okU k_gw_4))) okP))) r_gw
abbrev P_gx:List PK:=[.ptr Y45,.ptr Y45]
def F_gx (x:denP P_gx):FO P_gx R_a:=
 (F_gw (x.1.1,x.2.1.1,())).bind fun r1=>
 if r1.1.1=true then
 if (x.1.2.1==x.2.1.2.1)=true then
 (F_gw (x.1.2.2.1,x.2.1.2.2.1,())).bind fun r2=>
 if r2.1.1=true then
 if (x.1.2.2.2.1==x.2.1.2.2.2.1)=true then
 if (x.1.2.2.2.2.1==x.2.1.2.2.2.2.1)=true then
 if (x.1.2.2.2.2.2.1==x.2.1.2.2.2.2.2.1)=true then
 if (x.1.2.2.2.2.2.2.1==x.2.1.2.2.2.2.2.2.1)=true then
 (F_gw (x.1.2.2.2.2.2.2.2.1,x.2.1.2.2.2.2.2.2.2.1,())).bind fun r3=>
 if r3.1.1=true then
 (F_gw (x.1.2.2.2.2.2.2.2.2.1,x.2.1.2.2.2.2.2.2.2.2.1,())).bind fun r4=>
 some ((r4.1.1,()),())
 else
 some ((false,()),())
 else
 some ((false,()),())
 else
 some ((false,()),())
 else
 some ((false,()),())
 else
 some ((false,()),())
 else
 some ((false,()),())
 else
 some ((false,()),())
 else
 some ((false,()),())
abbrev C_gx:Con:=⟨P_gx,R_a,F_gx,false⟩
theorem s_gx:Bc 178 C_gx:=fnE (Qa s_gw Qc) Tryz.f178
def F_gy (x:denP P_et):FO P_et R_a:=
 (F_gx (x.1.1,x.2.1.1,())).bind fun r1=>
 if r1.1.1=true then
 (F_gw (x.1.2.1,x.2.1.2.1,())).bind fun r2=>
 if r2.1.1=true then
 (F_gw (x.1.2.2.1,x.2.1.2.2.1,())).bind fun r3=>
 some ((r3.1.1,()),())
 else
 some ((false,()),())
 else
 some ((false,()),())
abbrev C_gy:Con:=⟨P_et,R_a,F_gy,false⟩
theorem s_gy:Bc 129 C_gy:=fnE (Qa s_gx (Qa s_gw Qc)) Tryz.f129
abbrev P_gz:List PK:=[.ptr Y32,.ptr Y66,.val YI]
def F_gz (x:denP P_gz):FO P_gz R_a:=
 (F_gt (x.1,x.2.2.1,())).bind fun r1=>
 (F_gv (x.1.1,x.2.1,x.2.2.1,())).bind fun r2=>
 (F_gy (((r1.1.1.1,(r1.1.1.2.1,(r1.1.1.2.2.1,(r1.1.1.2.2.2.1,(r1.1.1.2.2.2.2.1,(r1.1.1.2.2.2.2.2.1,(r1.1.1.2.2.2.2.2.2.1,(r1.1.1.2.2.2.2.2.2.2.1,(r1.1.1.2.2.2.2.2.2.2.2.1,()))))))))),(r1.1.1.2.2.2.2.2.2.2.2.2.1,(r1.1.1.2.2.2.2.2.2.2.2.2.2.1,()))),((r2.1.1.2.1,(r2.1.1.2.2.1,(r2.1.1.2.2.2.1,(r2.1.1.2.2.2.2.1,(r2.1.1.2.2.2.2.2.1,(r1.1.1.2.2.2.2.2.1,(r2.1.1.2.2.2.2.2.2.2.1,(r2.1.1.2.2.2.2.2.2.2.2.1,(r2.1.1.2.2.2.2.2.2.2.2.2.1,()))))))))),(r2.1.1.2.2.2.2.2.2.2.2.2.2.1,(r2.1.1.2.2.2.2.2.2.2.2.2.2.2.1,()))),())).bind fun r3=>
 some ((r3.1.1,()),())
abbrev C_gz:Con:=⟨P_gz,R_a,F_gz,false⟩
theorem s_gz:Bc 74 C_gz:=fnE (Qa s_gt (Qa s_gv (Qa s_gy Qc))) Tryz.f74
abbrev R_ha:List VK:=[.g [.dat YI,.own 2 YI,.dat YI,.own 2 YI,.dat .bool,.dat .bool,.dat .bool,.dat YI,.dat Y30,.own 2 YI,.own 88 Y38,.own 2 YI]]
abbrev i_ha_9:Shp:={ slots:=[(1,.s (.dat YI)),(4,.s (.ptr 4 0)),(6,.s (.ptr 6 0)),(7,.s (.ptr 1227000 0)),(8,.s (.dat YI))],boxes:=[(4,[.dat YI,.own 2 YI,.dat YI,.own 2 YI,.dat .bool,.dat .bool,.dat .bool,.dat YI,.own 2 YI,.own 2 YI,.own 88 Y38,.own 2 YI]),(6,[.own 2 YI,.dat YI,.own 2 YI,.dat .bool,.dat .bool,.dat .bool,.dat YI,.own 2 YI,.own 2 YI,.own 88 Y38,.own 2 YI]),(1227000,[.dat Y26,.own 2 YI,.dat YI,.own 2 YI,.dat YI,.own 2 YI,.dat .bool,.dat .bool,.dat .bool,.dat YI,.dat Y30,.own 2 YI,.dat YI])],rows:=[] }
abbrev o_ha_9:List (Ex×Shp):=[(.exit 0,{ slots:=[(4,.s (.ptr 4 0)),(6,.s (.ptr 6 0)),(7,.s (.ptr 1227000 0))],boxes:=[(4,[.dat YI,.own 2 YI,.dat YI,.own 2 YI,.dat .bool,.dat .bool,.dat .bool,.dat YI,.own 2 YI,.own 2 YI,.own 88 Y38,.own 2 YI]),(6,[.own 2 YI,.dat YI,.own 2 YI,.dat .bool,.dat .bool,.dat .bool,.dat YI,.own 2 YI,.own 2 YI,.own 88 Y38,.own 2 YI]),(1227000,[.dat Y26,.own 2 YI,.dat YI,.own 2 YI,.dat YI,.own 2 YI,.dat .bool,.dat .bool,.dat .bool,.dat YI,.dat Y30,.own 2 YI,.dat YI])],rows:=[] })]
def l_ha_9 (rec:i_ha_9.den→Option (denO o_ha_9)) (u:i_ha_9.den):Option (denO o_ha_9):=
 if (ltI u.1.2.2.2.2.1 u.1.1) then
 (F_br (u.2.1.2.2.1,())).bind fun r6=>
 let v7:=(IntKind.i64.wrap (u.1.2.2.2.2.1+(1:Int)))
 rec ((u.1.1,((),((),((),(v7,()))))),((u.2.1.1,(u.2.1.2.1,(r6.2.1,()))),()))
 else
 some (.inl (((),((),((),()))),((u.2.1.1,(u.2.1.2.1,(u.2.1.2.2.1,()))),())))
def L_ha_9 (x:i_ha_9.den):Option (denO o_ha_9):=Qb l_ha_9 lots x
def F_ha (x:denP P_gi):FO P_gi R_ha:=
 (F_go (x.1,())).bind fun r1=>
 if (r1.1.1 !=(0:Int)) then
 some (((r1.1.1,(([]:List (den YI)),((0:Int),(([]:List (den YI)),(false,(false,(false,((0:Int),(([]:List (den YI)),(([]:List (den YI)),(([]:List (den Y38)),(([]:List (den YI)),())))))))))))),()),())
 else
 (F_e (x.2.1,(0:Int),(500:Int),())).bind fun r2=>
 if (!r2.1.1) then
 some ((((3:Int),(([]:List (den YI)),((0:Int),(([]:List (den YI)),(false,(false,(false,((0:Int),(([]:List (den YI)),(([]:List (den YI)),(([]:List (den Y38)),(([]:List (den YI)),())))))))))))),()),())
 else
 (F_gr (x.1,())).bind fun r3=>
 (F_am (x.1.1,x.1.2.1,x.1.2.2.1,())).bind fun r4=>
 (L_ha_9 ((x.2.1,((),((),((),((0:Int),()))))),((((0:Int),(([]:List (den YI)),((0:Int),(([]:List (den YI)),(false,(false,(false,((0:Int),(([]:List (den YI)),(([]:List (den YI)),(([]:List (den Y38)),(([]:List (den YI)),())))))))))))),(r3.1.1,(r4.1.1,()))),()))).bind fun z8=>
 match z8 with
 | .inl x9=>
  some ((((0:Int),(x9.2.1.2.2.1.2.2.2.1,(x9.2.1.2.2.1.2.2.2.2.1,(x9.2.1.2.2.1.2.2.2.2.2.1,(x9.2.1.2.2.1.2.2.2.2.2.2.1,(x9.2.1.2.2.1.2.2.2.2.2.2.2.1,(x9.2.1.2.2.1.2.2.2.2.2.2.2.2.1,(x9.2.1.2.2.1.2.2.2.2.2.2.2.2.2.1,(x9.2.1.2.2.1.2.2.2.2.2.2.2.2.2.2.1,(x9.2.1.2.2.1.2.2.2.2.2.2.2.2.2.2.2.1,(x9.2.1.2.1.2.2.2.2.2.2.2.2.2.1,(x9.2.1.2.2.1.2.1,())))))))))))),()),())
 | .inr z8_=>
  none
abbrev C_ha:Con:=⟨P_gi,R_ha,F_ha,false⟩
abbrev G_ha:Env:=[(71,C_go),(73,C_gr),(94,C_e),(99,C_am),(101,C_br)]
theorem g_ha:Be G_ha:=(Qa s_go (Qa s_gr (Qa s_e (Qa s_am (Qa s_br Qc)))))
abbrev c_ha_9:Cut:=⟨i_ha_9,o_ha_9,fun x=>Qb l_ha_9 lots x⟩
theorem k_ha_9:Bu 47 (.loop (nav Tryz.f77 [1,1,1,1,1,0,1,0,0])) c_ha_9:=
  Qd (L:=[]) hT g_ha (fun _ _=>by kernel_rfl) okP _
theorem r_ha (x):QA T G_ha [(9,c_ha_9)] Tryz.f77 C_ha.ps C_ha.rs x=C_ha.F x:=by kernel_rfl
theorem s_ha:Bc 77 C_ha:=fnC (L:=[(9,c_ha_9)]) hT g_ha Tryz.f77 (okS okP (okS okP (okS okP (okS okP (okS okP (okS (okS okP (okB (okU k_ha_9))) okP)))))) r_ha
abbrev i_hb_21:Shp:={ slots:=[(2,.s (.dat YI)),(3,.s (.dat YI)),(8,.s (.ptr 8 0)),(11,.s (.ptr 11 0)),(12,.s (.ptr 12 0)),(13,.s (.dat YI)),(14,.s (.dat YI))],boxes:=[(8,[.dat YI,.dat YI,.dat .bool]),(11,[.dat Y24,.dat Y25,.dat Y26,.dat Y26,.own 2 YI,.own 46 Y45,.dat YI,.dat YI,.dat YI]),(12,[.dat Y30,.dat YI,.dat Y30,.dat .bool,.dat .bool,.dat .bool,.dat YI,.dat Y30,.dat Y30,.dat Y26,.own 2 YI])],rows:=[] }
abbrev o_hb_21:List (Ex×Shp):=[(.exit 2,{ slots:=[(2,.s (.dat YI)),(3,.s (.dat YI)),(8,.s (.ptr 8 0)),(11,.s (.ptr 11 0)),(12,.s (.ptr 12 0)),(13,.s (.dat YI))],boxes:=[(8,[.dat YI,.dat YI,.dat .bool]),(11,[.dat Y24,.dat Y25,.dat Y26,.dat Y26,.own 2 YI,.own 46 Y45,.dat YI,.dat YI,.dat YI]),(12,[.dat Y30,.dat YI,.dat Y30,.dat .bool,.dat .bool,.dat .bool,.dat YI,.dat Y30,.dat Y30,.dat Y26,.own 2 YI])],rows:=[] })]
def l_hb_21 (rec:i_hb_21.den→Option (denO o_hb_21)) (u:i_hb_21.den):Option (denO o_hb_21):=
 let v47:=((u.2.1.2.1.2.1.length:Nat):Int)
 if (ltI u.1.2.2.2.2.2.2.1 v47) then
 if 0≤u.1.2.2.2.2.2.2.1 then
 ((u.2.1.2.1.2.1)[(u.1.2.2.2.2.2.2.1).toNat]?).bind fun y48=>
 if (y48.2.1==u.1.1) then
 (F_dw (u.2.1.2.1.2.2.2.2.1,[y48.2.2.1],())).bind fun r49=>
 (F_dx (u.2.1.2.2.1,y48.2.2.2.2.1,r49.1.1,())).bind fun r50=>
 let v51:=(IntKind.i64.wrap (u.1.2.2.2.2.2.2.1+(1:Int)))
 rec ((u.1.1,(u.1.2.1,((),((),((),(u.1.2.2.2.2.2.1,(v51,()))))))),((u.2.1.1,(u.2.1.2.1,(r50.2.1,()))),()))
 else
 let v52:=(IntKind.i64.wrap (u.1.2.2.2.2.2.2.1+(1:Int)))
 rec ((u.1.1,(u.1.2.1,((),((),((),(u.1.2.2.2.2.2.1,(v52,()))))))),((u.2.1.1,(u.2.1.2.1,(u.2.1.2.2.1,()))),()))
 else none
 else
 some (.inl ((u.1.1,(u.1.2.1,((),((),((),(u.1.2.2.2.2.2.1,())))))),((u.2.1.1,(u.2.1.2.1,(u.2.1.2.2.1,()))),())))
def L_hb_21 (x:i_hb_21.den):Option (denO o_hb_21):=Qb l_hb_21 lots x
abbrev i_hb_15:Shp:={ slots:=[(2,.s (.dat YI)),(3,.s (.dat YI)),(8,.s (.ptr 8 0)),(11,.s (.ptr 11 0)),(12,.s (.ptr 12 0)),(13,.s (.dat YI))],boxes:=[(8,[.dat YI,.dat YI,.dat .bool]),(11,[.dat Y24,.dat Y25,.dat Y26,.dat Y26,.own 2 YI,.own 46 Y45,.dat YI,.dat YI,.dat YI]),(12,[.own 2 YI,.dat YI,.own 2 YI,.dat .bool,.dat .bool,.dat .bool,.dat YI,.dat Y30,.own 2 YI,.own 88 Y38,.own 2 YI])],rows:=[] }
def l_hb_15 (rec:i_hb_15.den→Option (denO o_gl_10)) (u:i_hb_15.den):Option (denO o_gl_10):=
 (F_gz (((u.2.1.2.1.1,(u.2.1.2.1.2.1,(u.2.1.2.1.2.2.1,(u.2.1.2.1.2.2.2.1,())))),(u.2.1.2.1.2.2.2.2.1,(u.2.1.2.1.2.2.2.2.2.1,(u.2.1.2.1.2.2.2.2.2.2.1,(u.2.1.2.1.2.2.2.2.2.2.2.1,(u.2.1.2.1.2.2.2.2.2.2.2.2.1,())))))),((u.2.1.2.2.1.1,(u.2.1.2.2.1.2.1,(u.2.1.2.2.1.2.2.1,(u.2.1.2.2.1.2.2.2.1,(u.2.1.2.2.1.2.2.2.2.1,(u.2.1.2.2.1.2.2.2.2.2.1,(u.2.1.2.2.1.2.2.2.2.2.2.1,(u.2.1.2.2.1.2.2.2.2.2.2.2.1,(u.2.1.2.2.1.2.2.2.2.2.2.2.2.1,()))))))))),(u.2.1.2.2.1.2.2.2.2.2.2.2.2.2.1,(u.2.1.2.2.1.2.2.2.2.2.2.2.2.2.2.1,()))),u.1.1,())).bind fun r39=>
 if (!r39.1.1) then
 some (.inl (((),()),((((0:Int),(u.1.2.2.2.2.2.1,(false,()))),()),())))
 else
 if (u.1.2.2.2.2.2.1==u.1.2.1) then
 some (.inl (((),()),((((0:Int),((0:Int),(true,()))),()),())))
 else
 if 0≤u.2.1.2.1.2.2.2.2.2.2.1 then
 ((u.2.1.2.1.2.2.2.1)[(u.2.1.2.1.2.2.2.2.2.2.1).toNat]?).bind fun y40=>
 if (y40.1==u.1.1) then
 (L_hb_21 ((u.1.1,(u.1.2.1,((),((),((),(u.1.2.2.2.2.2.1,((0:Int),()))))))),((u.2.1.1,(u.2.1.2.1,(u.2.1.2.2.1,()))),()))).bind fun z53=>
 match z53 with
 | .inl x54=>
  if 0≤x54.1.1∧x54.1.1< ((x54.2.1.2.1.2.2.2.2.2.1.length:Nat):Int) then
  ((x54.2.1.2.1.2.2.2.2.2.1)[(x54.1.1).toNat]?).bind fun y55=>
  (F_ha (((x54.2.1.2.2.1.1,(x54.2.1.2.2.1.2.1,(x54.2.1.2.2.1.2.2.1,(x54.2.1.2.2.1.2.2.2.1,(x54.2.1.2.2.1.2.2.2.2.1,(y55.2.2.2.2.2.1,(x54.2.1.2.2.1.2.2.2.2.2.2.1,(x54.2.1.2.2.1.2.2.2.2.2.2.2.1,(x54.2.1.2.2.1.2.2.2.2.2.2.2.2.1,()))))))))),(x54.2.1.2.2.1.2.2.2.2.2.2.2.2.2.1,(x54.2.1.2.2.1.2.2.2.2.2.2.2.2.2.2.1,()))),(1:Int),())).bind fun r56=>
  (F_bt (x54.2.1.2.1,())).bind fun r57=>
  let v58:=(IntKind.i64.wrap (x54.1.2.2.2.2.2.1+(1:Int)))
  rec ((x54.1.1,(x54.1.2.1,((),((),((),(v58,())))))),((x54.2.1.1,(r57.2.1,((r56.1.1.2.1,(r56.1.1.2.2.1,(r56.1.1.2.2.2.1,(r56.1.1.2.2.2.2.1,(r56.1.1.2.2.2.2.2.1,(r56.1.1.2.2.2.2.2.2.1,(r56.1.1.2.2.2.2.2.2.2.1,(r56.1.1.2.2.2.2.2.2.2.2.1,(r56.1.1.2.2.2.2.2.2.2.2.2.1,(r56.1.1.2.2.2.2.2.2.2.2.2.2.1,(r56.1.1.2.2.2.2.2.2.2.2.2.2.2.1,()))))))))))),()))),()))
  else none
 | .inr z53_=>
  none
 else
 (F_bt (u.2.1.2.1,())).bind fun r59=>
 let v60:=(IntKind.i64.wrap (u.1.2.2.2.2.2.1+(1:Int)))
 rec ((u.1.1,(u.1.2.1,((),((),((),(v60,())))))),((u.2.1.1,(r59.2.1,(u.2.1.2.2.1,()))),()))
 else none
def L_hb_15 (x:i_hb_15.den):Option (denO o_gl_10):=Qb l_hb_15 lots x
def F_hb (x:denP P_gl):FO P_gl R_gl:=
 (F_du (x.1,())).bind fun r1=>
 if (r1.1.1 !=(0:Int)) then
 (F_gm (r1.1.1,())).bind fun r2=>
 some ((r2.1.1,()),())
 else
 (F_go (x.2.1,())).bind fun r3=>
 if (r3.1.1 !=(0:Int)) then
 (F_gm (r3.1.1,())).bind fun r4=>
 some ((r4.1.1,()),())
 else
 (F_h (x.1.1,x.2.2.1,())).bind fun r5=>
 if (!r5.1.1) then
 (F_gm ((4:Int),())).bind fun r6=>
 some ((r6.1.1,()),())
 else
 (F_gp (x.1,x.2.2.2.1,())).bind fun r7=>
 if (!r7.1.1) then
 (F_gm ((3:Int),())).bind fun r8=>
 some ((r8.1.1,()),())
 else
 (F_gq (x.1,())).bind fun r9=>
 (F_gr (x.2.1,())).bind fun r10=>
 (L_hb_15 ((x.2.2.1,(x.2.2.2.1,((),((),((),((0:Int),())))))),((((0:Int),((0:Int),(false,()))),(r9.1.1,(r10.1.1,()))),()))).bind fun z61=>
 match z61 with
 | .inl x62=>
  some ((x62.2.1.1,()),())
 | .inr z61_=>
  none
abbrev C_hb:Con:=⟨P_gl,R_gl,F_hb,false⟩
abbrev G_hb:Env:=[(34,C_du),(35,C_gq),(36,C_bt),(55,C_h),(70,C_gm),(71,C_go),(72,C_gp),(73,C_gr),(74,C_gz),(75,C_dx),(76,C_dw),(77,C_ha)]
theorem g_hb:Be G_hb:=(Qa s_du (Qa s_gq (Qa s_bt (Qa s_h (Qa s_gm (Qa s_go (Qa s_gp (Qa s_gr (Qa s_gz (Qa s_dx (Qa s_dw (Qa s_ha Qc))))))))))))
abbrev c_hb_21:Cut:=⟨i_hb_21,o_hb_21,fun x=>Qb l_hb_21 lots x⟩
theorem k_hb_21:Bu 100 (.loop (nav Tryz.f26 [1,1,1,1,1,1,1,1,0,0,0,0,1,1,0,1,0,0,1,0,0])) c_hb_21:=
  Qd (L:=[]) hT g_hb (fun _ _=>by kernel_rfl) okP _
abbrev c_hb_15:Cut:=⟨i_hb_15,o_gl_10,fun x=>Qb l_hb_15 lots x⟩
theorem t_hb_15 (rec x):run T G_hb [(21,c_hb_21)] (nav Tryz.f26 [1,1,1,1,1,1,1,1,0,0]) (mk 100 i_hb_15 x) (QgU i_hb_15 o_gl_10 rec)=l_hb_15 rec x:=by kernel_rfl
theorem k_hb_15:Bu 100 (.loop (nav Tryz.f26 [1,1,1,1,1,1,1,1,0,0])) c_hb_15:=
  Qd (L:=[(21,c_hb_21)]) hT g_hb t_hb_15 (okS (okB (okS okP (okS okP (okS (okS okP (okI (okS (okS okP (okB (okU k_hb_21))) okP) okP)) okP)))) okP) _
theorem r_hb (x):QA T G_hb [(21,c_hb_21),(15,c_hb_15)] Tryz.f26 C_hb.ps C_hb.rs x=C_hb.F x:=by kernel_rfl
theorem s_hb:Bc 26 C_hb:=fnC (L:=[(21,c_hb_21),(15,c_hb_15)]) hT g_hb Tryz.f26 (okS okP (okS okP (okS okP (okS okP (okS okP (okS okP (okS okP (okS okP (okB (okU k_hb_15)))))))))) r_hb
abbrev i_hc_6:Shp:={ slots:=[(2,.s (.ptr 2 0)),(4,.s (.ptr 4 0)),(6,.s (.own 2 YI)),(23,.s (.dat YI)),(24,.s (.dat YI))],boxes:=[(2,[.dat Y24,.dat Y25,.dat Y26,.dat Y26,.dat Y30,.dat Y31,.dat YI,.dat YI,.dat YI]),(4,[.dat YI,.own 2 YI])],rows:=[] }
abbrev o_hc_6:List (Ex×Shp):=[(.exit 0,{ slots:=[(4,.s (.ptr 4 0)),(6,.s (.own 2 YI))],boxes:=[(4,[.dat YI,.own 2 YI])],rows:=[] })]
def l_hc_6 (rec:i_hc_6.den→Option (denO o_hc_6)) (u:i_hc_6.den):Option (denO o_hc_6):=
 if (ltI u.1.2.2.2.2.1 u.1.2.2.2.1) then
 let v6:=(IntKind.i64.wrap (u.2.1.1.2.2.2.2.2.2.2.2.1+u.1.2.2.2.2.1))
 (F_de ((u.2.1.1.1,(u.2.1.1.2.1,(u.2.1.1.2.2.1,(u.2.1.1.2.2.2.1,())))),v6,())).bind fun r7=>
 if 0≤r7.1.1 then
 ((u.2.1.1.2.2.2.1)[(r7.1.1).toNat]?).bind fun y8=>
 if (u.1.2.2.1.length+[y8.1].length)*8≤140737488355328 then
 let v9:=(u.1.2.2.1++[y8.1])
 let v10:=(IntKind.i64.wrap (u.1.2.2.2.2.1+(1:Int)))
 rec (((),((),(v9,(u.1.2.2.2.1,(v10,()))))),((u.2.1.1,(u.2.1.2.1,())),()))
 else none
 else none
 else
 some (.inl (((),(u.1.2.2.1,())),((u.2.1.2.1,()),())))
def L_hc_6 (x:i_hc_6.den):Option (denO o_hc_6):=Qb l_hc_6 lots x
def F_hc (x:denP P_dp):FO P_dp R_ab:=
 (F_df (x.1,())).bind fun r1=>
 (F_ed (x.2.1,[x.1],())).bind fun r2=>
 (F_eb ([r1.1.1,r2.1.1],())).bind fun r3=>
 if (r3.1.1 !=(0:Int)) then
 some (((r3.1.1,(([]:List (den YI)),())),()),())
 else
 (L_hc_6 (((),((),(([]:List (den YI)),(x.2.1,((0:Int),()))))),(((x.1.1.1,(x.1.1.2.1,(x.1.1.2.2.1,(x.1.1.2.2.2.1,(x.1.2.1,(x.1.2.2.1,(x.1.2.2.2.1,(x.1.2.2.2.2.1,(x.1.2.2.2.2.2.1,()))))))))),(((0:Int),(([]:List (den YI)),())),())),()))).bind fun z11=>
 match z11 with
 | .inl x12=>
  some ((((0:Int),(x12.1.2.1,())),()),())
 | .inr z11_=>
  none
abbrev C_hc:Con:=⟨P_dp,R_ab,F_hc,false⟩
abbrev G_hc:Env:=[(15,C_df),(40,C_eb),(51,C_de),(57,C_ed)]
theorem g_hc:Be G_hc:=(Qa s_df (Qa s_eb (Qa s_de (Qa s_ed Qc))))
abbrev c_hc_6:Cut:=⟨i_hc_6,o_hc_6,fun x=>Qb l_hc_6 lots x⟩
theorem k_hc_6:Bu 49 (.loop (nav Tryz.f27 [1,1,1,0,1,0,0])) c_hc_6:=
  Qd (L:=[]) hT g_hc (fun _ _=>by kernel_rfl) okP _
theorem r_hc (x):QA T G_hc [(6,c_hc_6)] Tryz.f27 C_hc.ps C_hc.rs x=C_hc.F x:=by kernel_rfl
theorem s_hc:Bc 27 C_hc:=fnC (L:=[(6,c_hc_6)]) hT g_hc Tryz.f27 (okS okP (okS okP (okS okP (okS (okS okP (okB (okU k_hc_6))) okP)))) r_hc
end Go.Proofs.YtkkljegcnnfanaaGreatDoor
