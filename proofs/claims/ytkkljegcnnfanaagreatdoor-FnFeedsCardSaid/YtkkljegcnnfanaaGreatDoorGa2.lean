/- The functions of the laws, each as a plain function of data (F), and that the program's text does what F says. Printed by a program (wip/tools/gen.py). -/
import Derived.Test.YtkkljegcnnfanaaGreatDoorGa1
set_option linter.unusedVariables false
set_option linter.unusedSimpArgs false
namespace Go.Proofs.YtkkljegcnnfanaaGreatDoor
open Go Go.RowKit S Go.Proofs
set_option maxRecDepth 100000
def F_av (x:denP P_n):FO P_n R_c:=
 if (x.1==(1:Int)) then
 some (((7:Int),()),())
 else
 if (x.1==(2:Int)) then
 some (((8:Int),()),())
 else
 some (((9:Int),()),())
abbrev C_av:Con:=⟨P_n,R_c,F_av,false⟩
theorem s_av:Qb Tryz.prog 197 C_av:=fnC (L:=[]) hT g_a Tryz.f197 okP fun _=>by kernel_rfl
abbrev P_aw:List PK:=[.ptr Y152,.val YI,.val YI]
abbrev R_aw:List VK:=[.s (.dat YI),.s (.dat YI)]
def F_aw (x:denP P_aw):FO P_aw R_aw:=
 (F_au (x.1,())).bind fun r1=>
 if (!r1.1.2.1) then
 some (((0:Int),(7:Int),()),())
 else
 (F_ar (r1.1.1,x.2.1,x.2.2.1,())).bind fun r2=>
 if (ltI r2.1.1 (0:Int)) then
 (F_av (x.2.2.1,())).bind fun r3=>
 some (((0:Int),r3.1.1,()),())
 else
 let v4:=(IntKind.i64.wrap ((r2.1.1).tdiv (8:Int)))
 if (v4==(7:Int)) then
 if (x.2.2.1==(4:Int)) then
 some (((0:Int),(9:Int),()),())
 else
 let v5:=((r2.1.1).tmod (8:Int))
 let v6:=(IntKind.i64.wrap ((1000:Int)+v5))
 some ((v6,(0:Int),()),())
 else
 (F_ar (x.1.1,r2.1.1,x.2.2.1,())).bind fun r7=>
 if (ltI r7.1.1 (0:Int)) then
 (F_av (x.2.2.1,())).bind fun r8=>
 some (((0:Int),r8.1.1,()),())
 else
 some ((r7.1.1,(0:Int),()),())
abbrev C_aw:Con:=⟨P_aw,R_aw,F_aw,false⟩
abbrev G_aw:Env:=[(195,C_au),(196,C_ar),(197,C_av)]
theorem g_aw:Qf Tryz.prog G_aw:=(Qa s_au (Qa s_ar (Qa s_av Qc)))
theorem s_aw:Qb Tryz.prog 149 C_aw:=fnC (L:=[]) hT g_aw Tryz.f149 okP fun _=>by kernel_rfl
abbrev R_ax:List VK:=[.s (.dat Y186),.s (.dat .bool)]
def F_ax (x:denP P_n):FO P_n R_ax:=
 (F_e (x.1,(0:Int),(4294967295:Int),())).bind fun r1=>
 if (!r1.1.1) then
 some ((((0:Int),((0:Int),((0:Int),((0:Int),())))),false,()),())
 else
 let v2:=((x.1).fdiv (2 ^ 24))
 let v3:=((x.1).fdiv (2 ^ 20))
 let v4:=(iand .i64 v3 (15:Int))
 let v5:=((x.1).fdiv (2 ^ 16))
 let v6:=(iand .i64 v5 (15:Int))
 let v7:=(iand .i64 x.1 (65535:Int))
 (F_q ((v2,(v4,(v6,(v7,())))),())).bind fun r8=>
 some (((v2,(v4,(v6,(v7,())))),(r8.1.1==(0:Int)),()),())
abbrev C_ax:Con:=⟨P_n,R_ax,F_ax,false⟩
abbrev G_ax:Env:=[(94,C_e),(198,C_q)]
theorem g_ax:Qf Tryz.prog G_ax:=(Qa s_e (Qa s_q Qc))
theorem s_ax:Qb Tryz.prog 150 C_ax:=fnC (L:=[]) hT g_ax Tryz.f150 okP fun _=>by kernel_rfl
abbrev P_ay:List PK:=[.val YI,.val YI]
def F_ay (x:denP P_ay):FO P_ay R_c:=
 let v1:=(IntKind.u32.wrap x.1)
 let v2:=(IntKind.u32.wrap x.2.1)
 let v3:=(IntKind.u32.wrap (v1+v2))
 let v4:=(IntKind.i64.wrap v3)
 some ((v4,()),())
abbrev C_ay:Con:=⟨P_ay,R_c,F_ay,false⟩
theorem s_ay:Qb Tryz.prog 199 C_ay:=fnC (L:=[]) hT g_a Tryz.f199 okP fun _=>by kernel_rfl
def F_az (x:denP P_n):FO P_n R_c:=
 let v1:=(IntKind.u16.wrap x.1)
 let v2:=(IntKind.i16.wrap v1)
 let v3:=(IntKind.i64.wrap v2)
 some ((v3,()),())
abbrev C_az:Con:=⟨P_n,R_c,F_az,false⟩
theorem s_az:Qb Tryz.prog 200 C_az:=fnC (L:=[]) hT g_a Tryz.f200 okP fun _=>by kernel_rfl
def F_ba (x:denP P_aq):FO P_aq R_ap:=
 if (x.2.1 !=(0:Int)) then
 if 0≤x.2.1∧x.2.1< ((x.1.2.2.2.1.length:Nat):Int) then
 ((x.1.2.2.2.1)[(x.2.1).toNat]?).bind fun y1=>
 let v2:=(x.1.2.2.2.1.set (x.2.1).toNat x.2.2.1)
 some ((),((x.1.1,(x.1.2.1,(x.1.2.2.1,(v2,(x.1.2.2.2.2.1,(x.1.2.2.2.2.2.1,(x.1.2.2.2.2.2.2.1,(x.1.2.2.2.2.2.2.2.1,(x.1.2.2.2.2.2.2.2.2.1,(x.1.2.2.2.2.2.2.2.2.2.1,(x.1.2.2.2.2.2.2.2.2.2.2.1,(x.1.2.2.2.2.2.2.2.2.2.2.2.1,(x.1.2.2.2.2.2.2.2.2.2.2.2.2.1,()))))))))))))),()))
 else none
 else
 some ((),(x.1,()))
abbrev C_ba:Con:=⟨P_aq,R_ap,F_ba,false⟩
theorem s_ba:Qb Tryz.prog 201 C_ba:=fnC (L:=[]) hT g_a Tryz.f201 okP fun _=>by kernel_rfl
abbrev P_bb:List PK:=[.box [.own 2 YI,.dat YI,.own 2 YI,.dat .bool,.dat .bool,.dat .bool,.dat YI,.dat Y30,.own 2 YI] [.own 2 YI,.dat YI,.own 2 YI,.dat .bool,.dat .bool,.dat .bool,.dat YI,.dat Y30,.own 2 YI],.val YI]
def F_bb (x:denP P_bb):FO P_bb R_c:=
 if (x.2.1==(1:Int)) then
 let v1:=((x.1.2.2.2.2.2.2.2.1.length:Nat):Int)
 if (v1==(0:Int)) then
 some (((0:Int),()),(x.1,()))
 else
 ((x.1.2.2.2.2.2.2.2.1)[((0:Int)).toNat]?).bind fun y2=>
 if 0≤(1:Int)∧(1:Int)≤((x.1.2.2.2.2.2.2.2.1.length:Nat):Int)∧((x.1.2.2.2.2.2.2.2.1.length:Nat):Int)≤((x.1.2.2.2.2.2.2.2.1.length:Nat):Int) then
 let v3:=((x.1.2.2.2.2.2.2.2.1.drop ((1:Int)).toNat).take ((((x.1.2.2.2.2.2.2.2.1.length:Nat):Int)).toNat-((1:Int)).toNat))
 some ((y2,()),((x.1.1,(x.1.2.1,(x.1.2.2.1,(x.1.2.2.2.1,(x.1.2.2.2.2.1,(x.1.2.2.2.2.2.1,(x.1.2.2.2.2.2.2.1,(v3,(x.1.2.2.2.2.2.2.2.2.1,()))))))))),()))
 else none
 else
 if (x.2.1==(2:Int)) then
 some ((x.1.2.2.2.2.2.2.1,()),(x.1,()))
 else
 if (x.2.1==(3:Int)) then
 if 0≤(9:Int)∧(9:Int)< ((x.1.2.2.1.length:Nat):Int) then
 ((x.1.2.2.1)[((9:Int)).toNat]?).bind fun y4=>
 some ((y4,()),(x.1,()))
 else none
 else
 if (x.2.1==(4:Int)) then
 (F_an (x.1,())).bind fun r5=>
 some ((r5.1.1,()),(x.1,()))
 else
 if (x.2.1==(6:Int)) then
 let v6:=((x.1.2.2.2.2.2.2.2.1.length:Nat):Int)
 some ((v6,()),(x.1,()))
 else
 some (((0:Int),()),(x.1,()))
abbrev C_bb:Con:=⟨P_bb,R_c,F_bb,false⟩
theorem g_bb:Qf Tryz.prog G_ao:=(Qa s_an Qc)
theorem s_bb:Qb Tryz.prog 243 C_bb:=fnC (L:=[]) hT g_bb Tryz.f243 okP fun _=>by kernel_rfl
def F_bc (x:denP P_ap):FO P_ap R_ap:=
 (F_z (x.2.2.1,())).bind fun r1=>
 if (x.2.1==(0:Int)) then
 let v2:=((r1.1.1).tmod (4:Int))
 if 0≤x.2.1∧x.2.1< ((x.1.2.2.1.length:Nat):Int) then
 ((x.1.2.2.1)[(x.2.1).toNat]?).bind fun y3=>
 let v4:=(x.1.2.2.1.set (x.2.1).toNat v2)
 some ((),((x.1.1,(x.1.2.1,(v4,(x.1.2.2.2.1,(x.1.2.2.2.2.1,(x.1.2.2.2.2.2.1,(x.1.2.2.2.2.2.2.1,(x.1.2.2.2.2.2.2.2.1,(x.1.2.2.2.2.2.2.2.2.1,()))))))))),()))
 else none
 else
 if (x.2.1==(7:Int)) then
 let v5:=((r1.1.1).tmod (8:Int))
 if 0≤x.2.1∧x.2.1< ((x.1.2.2.1.length:Nat):Int) then
 ((x.1.2.2.1)[(x.2.1).toNat]?).bind fun y6=>
 let v7:=(x.1.2.2.1.set (x.2.1).toNat v5)
 some ((),((x.1.1,(x.1.2.1,(v7,(x.1.2.2.2.1,(x.1.2.2.2.2.1,(x.1.2.2.2.2.2.1,(x.1.2.2.2.2.2.2.1,(x.1.2.2.2.2.2.2.2.1,(x.1.2.2.2.2.2.2.2.2.1,()))))))))),()))
 else none
 else
 if (x.2.1==(10:Int)) then
 if 0≤x.2.1∧x.2.1< ((x.1.2.2.1.length:Nat):Int) then
 ((x.1.2.2.1)[(x.2.1).toNat]?).bind fun y8=>
 let v9:=(x.1.2.2.1.set (x.2.1).toNat (0:Int))
 if (leI r1.1.1 (8:Int)) then
 if 0≤x.2.1∧x.2.1< ((v9.length:Nat):Int) then
 ((v9)[(x.2.1).toNat]?).bind fun y10=>
 let v11:=(v9.set (x.2.1).toNat r1.1.1)
 some ((),((x.1.1,(x.1.2.1,(v11,(x.1.2.2.2.1,(x.1.2.2.2.2.1,(x.1.2.2.2.2.2.1,(x.1.2.2.2.2.2.2.1,(x.1.2.2.2.2.2.2.2.1,(x.1.2.2.2.2.2.2.2.2.1,()))))))))),()))
 else none
 else
 some ((),((x.1.1,(x.1.2.1,(v9,(x.1.2.2.2.1,(x.1.2.2.2.2.1,(x.1.2.2.2.2.2.1,(x.1.2.2.2.2.2.2.1,(x.1.2.2.2.2.2.2.2.1,(x.1.2.2.2.2.2.2.2.2.1,()))))))))),()))
 else none
 else
 if (x.2.1==(6:Int)) then
 if x.1.2.2.2.2.2.1=true then
 let v12:=((r1.1.1).tmod (4:Int))
 some ((),((x.1.1,(x.1.2.1,(x.1.2.2.1,(x.1.2.2.2.1,(x.1.2.2.2.2.1,((ltI v12 (2:Int)),(x.1.2.2.2.2.2.2.1,(x.1.2.2.2.2.2.2.2.1,(x.1.2.2.2.2.2.2.2.2.1,()))))))))),()))
 else
 some ((),((x.1.1,(x.1.2.1,(x.1.2.2.1,(x.1.2.2.2.1,(x.1.2.2.2.2.1,(false,(x.1.2.2.2.2.2.2.1,(x.1.2.2.2.2.2.2.2.1,(x.1.2.2.2.2.2.2.2.2.1,()))))))))),()))
 else
 if (x.2.1==(8:Int)) then
 some ((),(x.1,()))
 else
 if 0≤x.2.1∧x.2.1< ((x.1.2.2.1.length:Nat):Int) then
 ((x.1.2.2.1)[(x.2.1).toNat]?).bind fun y13=>
 let v14:=(x.1.2.2.1.set (x.2.1).toNat r1.1.1)
 some ((),((x.1.1,(x.1.2.1,(v14,(x.1.2.2.2.1,(x.1.2.2.2.2.1,(x.1.2.2.2.2.2.1,(x.1.2.2.2.2.2.2.1,(x.1.2.2.2.2.2.2.2.1,(x.1.2.2.2.2.2.2.2.2.1,()))))))))),()))
 else none
abbrev C_bc:Con:=⟨P_ap,R_ap,F_bc,false⟩
theorem g_bc:Qf Tryz.prog G_aa:=(Qa s_z Qc)
theorem s_bc:Qb Tryz.prog 183 C_bc:=fnC (L:=[]) hT g_bc Tryz.f183 okP fun _=>by kernel_rfl
def F_bd (x:denP P_ap):FO P_ap R_c:=
 (F_z (x.2.2.1,())).bind fun r1=>
 if (x.2.1==(0:Int)) then
 let v2:=((x.1.2.2.2.2.2.2.2.2.1.length:Nat):Int)
 if (ltI v2 (40:Int)) then
 if (x.1.2.2.2.2.2.2.2.2.1.length+[r1.1.1].length)*8≤140737488355328 then
 let v3:=(x.1.2.2.2.2.2.2.2.2.1++[r1.1.1])
 some (((-1:Int),()),((x.1.1,(x.1.2.1,(x.1.2.2.1,(x.1.2.2.2.1,(x.1.2.2.2.2.1,(x.1.2.2.2.2.2.1,(x.1.2.2.2.2.2.2.1,(x.1.2.2.2.2.2.2.2.1,(v3,()))))))))),()))
 else none
 else
 some (((-1:Int),()),(x.1,()))
 else
 if (x.2.1==(3:Int)) then
 if 0≤(9:Int)∧(9:Int)< ((x.1.2.2.1.length:Nat):Int) then
 ((x.1.2.2.1)[((9:Int)).toNat]?).bind fun y4=>
 let v5:=(x.1.2.2.1.set ((9:Int)).toNat r1.1.1)
 some (((-1:Int),()),((x.1.1,(x.1.2.1,(v5,(x.1.2.2.2.1,(x.1.2.2.2.2.1,(x.1.2.2.2.2.2.1,(x.1.2.2.2.2.2.2.1,(x.1.2.2.2.2.2.2.2.1,(x.1.2.2.2.2.2.2.2.2.1,()))))))))),()))
 else none
 else
 if (x.2.1==(4:Int)) then
 (F_bc (x.1,(6:Int),r1.1.1,())).bind fun r6=>
 some (((-1:Int),()),(r6.2.1,()))
 else
 if (x.2.1==(5:Int)) then
 some ((r1.1.1,()),(x.1,()))
 else
 some (((-1:Int),()),(x.1,()))
abbrev C_bd:Con:=⟨P_ap,R_c,F_bd,false⟩
abbrev G_bd:Env:=[(183,C_bc),(225,C_z)]
theorem g_bd:Qf Tryz.prog G_bd:=(Qa s_bc (Qa s_z Qc))
theorem s_bd:Qb Tryz.prog 244 C_bd:=fnC (L:=[]) hT g_bd Tryz.f244 okP fun _=>by kernel_rfl
abbrev P_be:List PK:=[.box [.dat Y26,.own 2 YI,.dat YI,.own 2 YI,.dat YI,.own 2 YI,.dat .bool,.dat .bool,.dat .bool,.dat YI,.dat Y30,.own 2 YI,.dat YI] [.dat Y26,.own 2 YI,.dat YI,.own 2 YI,.dat YI,.own 2 YI,.dat .bool,.dat .bool,.dat .bool,.dat YI,.dat Y30,.own 2 YI,.dat YI],.val Y186]
def F_be (x:denP P_be):FO P_be R_a:=
 if 0≤x.2.1.2.2.1∧x.2.1.2.2.1< ((x.1.2.2.2.1.length:Nat):Int) then
 ((x.1.2.2.2.1)[(x.2.1.2.2.1).toNat]?).bind fun y1=>
 (F_az (x.2.1.2.2.2.1,())).bind fun r2=>
 (F_ay (y1,r2.1.1,())).bind fun r3=>
 if (x.2.1.1==(15:Int)) then
 (F_aw ((x.1.1,(x.1.2.1,(x.1.2.2.1,((x.1.2.2.2.1,(x.1.2.2.2.2.1,(x.1.2.2.2.2.2.1,(x.1.2.2.2.2.2.2.1,(x.1.2.2.2.2.2.2.2.1,(x.1.2.2.2.2.2.2.2.2.1,(x.1.2.2.2.2.2.2.2.2.2.1,(x.1.2.2.2.2.2.2.2.2.2.2.1,(x.1.2.2.2.2.2.2.2.2.2.2.2.1,()))))))))),(x.1.2.2.2.2.2.2.2.2.2.2.2.2.1,()))))),r3.1.1,(2:Int),())).bind fun r4=>
 if (r4.1.2.1 !=(0:Int)) then
 (F_aq (x.1,(4:Int),r3.1.1,())).bind fun r5=>
 some ((false,()),(r5.2.1,()))
 else
 if (x.2.1.1==(14:Int))=true then
 if (leI (1000:Int) r4.1.1) then
 let v6:=(IntKind.i64.wrap (r4.1.1-(1000:Int)))
 (F_bb ((x.1.2.2.2.1,(x.1.2.2.2.2.1,(x.1.2.2.2.2.2.1,(x.1.2.2.2.2.2.2.1,(x.1.2.2.2.2.2.2.2.1,(x.1.2.2.2.2.2.2.2.2.1,(x.1.2.2.2.2.2.2.2.2.2.1,(x.1.2.2.2.2.2.2.2.2.2.2.1,(x.1.2.2.2.2.2.2.2.2.2.2.2.1,()))))))))),v6,())).bind fun r7=>
 (F_ba ((x.1.1,(x.1.2.1,(x.1.2.2.1,(r7.2.1.1,(r7.2.1.2.1,(r7.2.1.2.2.1,(r7.2.1.2.2.2.1,(r7.2.1.2.2.2.2.1,(r7.2.1.2.2.2.2.2.1,(r7.2.1.2.2.2.2.2.2.1,(r7.2.1.2.2.2.2.2.2.2.1,(r7.2.1.2.2.2.2.2.2.2.2.1,(x.1.2.2.2.2.2.2.2.2.2.2.2.2.1,()))))))))))))),x.2.1.2.1,r7.1.1,())).bind fun r8=>
 some ((true,()),(r8.2.1,()))
 else
 if (x.2.1.1==(14:Int)) then
 if 0≤r4.1.1∧r4.1.1< ((x.1.2.1.length:Nat):Int) then
 ((x.1.2.1)[(r4.1.1).toNat]?).bind fun y9=>
 (F_ba (x.1,x.2.1.2.1,y9,())).bind fun r10=>
 some ((true,()),(r10.2.1,()))
 else none
 else
 if (leI (1000:Int) r4.1.1) then
 let v11:=(IntKind.i64.wrap (r4.1.1-(1000:Int)))
 if 0≤x.2.1.2.1∧x.2.1.2.1< ((x.1.2.2.2.1.length:Nat):Int) then
 ((x.1.2.2.2.1)[(x.2.1.2.1).toNat]?).bind fun y12=>
 (F_bd ((x.1.2.2.2.1,(x.1.2.2.2.2.1,(x.1.2.2.2.2.2.1,(x.1.2.2.2.2.2.2.1,(x.1.2.2.2.2.2.2.2.1,(x.1.2.2.2.2.2.2.2.2.1,(x.1.2.2.2.2.2.2.2.2.2.1,(x.1.2.2.2.2.2.2.2.2.2.2.1,(x.1.2.2.2.2.2.2.2.2.2.2.2.1,()))))))))),v11,y12,())).bind fun r13=>
 some ((true,()),((x.1.1,(x.1.2.1,(r13.1.1,(r13.2.1.1,(r13.2.1.2.1,(r13.2.1.2.2.1,(r13.2.1.2.2.2.1,(r13.2.1.2.2.2.2.1,(r13.2.1.2.2.2.2.2.1,(r13.2.1.2.2.2.2.2.2.1,(r13.2.1.2.2.2.2.2.2.2.1,(r13.2.1.2.2.2.2.2.2.2.2.1,(x.1.2.2.2.2.2.2.2.2.2.2.2.2.1,()))))))))))))),()))
 else none
 else
 if 0≤x.2.1.2.1∧x.2.1.2.1< ((x.1.2.2.2.1.length:Nat):Int) then
 ((x.1.2.2.2.1)[(x.2.1.2.1).toNat]?).bind fun y14=>
 if 0≤r4.1.1∧r4.1.1< ((x.1.2.1.length:Nat):Int) then
 ((x.1.2.1)[(r4.1.1).toNat]?).bind fun y15=>
 let v16:=(x.1.2.1.set (r4.1.1).toNat y14)
 some ((true,()),((x.1.1,(v16,(x.1.2.2.1,(x.1.2.2.2.1,(x.1.2.2.2.2.1,(x.1.2.2.2.2.2.1,(x.1.2.2.2.2.2.2.1,(x.1.2.2.2.2.2.2.2.1,(x.1.2.2.2.2.2.2.2.2.1,(x.1.2.2.2.2.2.2.2.2.2.1,(x.1.2.2.2.2.2.2.2.2.2.2.1,(x.1.2.2.2.2.2.2.2.2.2.2.2.1,(x.1.2.2.2.2.2.2.2.2.2.2.2.2.1,()))))))))))))),()))
 else none
 else none
 else
 if (x.2.1.1==(14:Int)) then
 if 0≤r4.1.1∧r4.1.1< ((x.1.2.1.length:Nat):Int) then
 ((x.1.2.1)[(r4.1.1).toNat]?).bind fun y17=>
 (F_ba (x.1,x.2.1.2.1,y17,())).bind fun r18=>
 some ((true,()),(r18.2.1,()))
 else none
 else
 if (leI (1000:Int) r4.1.1) then
 let v19:=(IntKind.i64.wrap (r4.1.1-(1000:Int)))
 if 0≤x.2.1.2.1∧x.2.1.2.1< ((x.1.2.2.2.1.length:Nat):Int) then
 ((x.1.2.2.2.1)[(x.2.1.2.1).toNat]?).bind fun y20=>
 (F_bd ((x.1.2.2.2.1,(x.1.2.2.2.2.1,(x.1.2.2.2.2.2.1,(x.1.2.2.2.2.2.2.1,(x.1.2.2.2.2.2.2.2.1,(x.1.2.2.2.2.2.2.2.2.1,(x.1.2.2.2.2.2.2.2.2.2.1,(x.1.2.2.2.2.2.2.2.2.2.2.1,(x.1.2.2.2.2.2.2.2.2.2.2.2.1,()))))))))),v19,y20,())).bind fun r21=>
 some ((true,()),((x.1.1,(x.1.2.1,(r21.1.1,(r21.2.1.1,(r21.2.1.2.1,(r21.2.1.2.2.1,(r21.2.1.2.2.2.1,(r21.2.1.2.2.2.2.1,(r21.2.1.2.2.2.2.2.1,(r21.2.1.2.2.2.2.2.2.1,(r21.2.1.2.2.2.2.2.2.2.1,(r21.2.1.2.2.2.2.2.2.2.2.1,(x.1.2.2.2.2.2.2.2.2.2.2.2.2.1,()))))))))))))),()))
 else none
 else
 if 0≤x.2.1.2.1∧x.2.1.2.1< ((x.1.2.2.2.1.length:Nat):Int) then
 ((x.1.2.2.2.1)[(x.2.1.2.1).toNat]?).bind fun y22=>
 if 0≤r4.1.1∧r4.1.1< ((x.1.2.1.length:Nat):Int) then
 ((x.1.2.1)[(r4.1.1).toNat]?).bind fun y23=>
 let v24:=(x.1.2.1.set (r4.1.1).toNat y22)
 some ((true,()),((x.1.1,(v24,(x.1.2.2.1,(x.1.2.2.2.1,(x.1.2.2.2.2.1,(x.1.2.2.2.2.2.1,(x.1.2.2.2.2.2.2.1,(x.1.2.2.2.2.2.2.2.1,(x.1.2.2.2.2.2.2.2.2.1,(x.1.2.2.2.2.2.2.2.2.2.1,(x.1.2.2.2.2.2.2.2.2.2.2.1,(x.1.2.2.2.2.2.2.2.2.2.2.2.1,(x.1.2.2.2.2.2.2.2.2.2.2.2.2.1,()))))))))))))),()))
 else none
 else none
 else
 (F_aw ((x.1.1,(x.1.2.1,(x.1.2.2.1,((x.1.2.2.2.1,(x.1.2.2.2.2.1,(x.1.2.2.2.2.2.1,(x.1.2.2.2.2.2.2.1,(x.1.2.2.2.2.2.2.2.1,(x.1.2.2.2.2.2.2.2.2.1,(x.1.2.2.2.2.2.2.2.2.2.1,(x.1.2.2.2.2.2.2.2.2.2.2.1,(x.1.2.2.2.2.2.2.2.2.2.2.2.1,()))))))))),(x.1.2.2.2.2.2.2.2.2.2.2.2.2.1,()))))),r3.1.1,(1:Int),())).bind fun r25=>
 if (r25.1.2.1 !=(0:Int)) then
 (F_aq (x.1,(3:Int),r3.1.1,())).bind fun r26=>
 some ((false,()),(r26.2.1,()))
 else
 if (x.2.1.1==(14:Int))=true then
 if (leI (1000:Int) r25.1.1) then
 let v27:=(IntKind.i64.wrap (r25.1.1-(1000:Int)))
 (F_bb ((x.1.2.2.2.1,(x.1.2.2.2.2.1,(x.1.2.2.2.2.2.1,(x.1.2.2.2.2.2.2.1,(x.1.2.2.2.2.2.2.2.1,(x.1.2.2.2.2.2.2.2.2.1,(x.1.2.2.2.2.2.2.2.2.2.1,(x.1.2.2.2.2.2.2.2.2.2.2.1,(x.1.2.2.2.2.2.2.2.2.2.2.2.1,()))))))))),v27,())).bind fun r28=>
 (F_ba ((x.1.1,(x.1.2.1,(x.1.2.2.1,(r28.2.1.1,(r28.2.1.2.1,(r28.2.1.2.2.1,(r28.2.1.2.2.2.1,(r28.2.1.2.2.2.2.1,(r28.2.1.2.2.2.2.2.1,(r28.2.1.2.2.2.2.2.2.1,(r28.2.1.2.2.2.2.2.2.2.1,(r28.2.1.2.2.2.2.2.2.2.2.1,(x.1.2.2.2.2.2.2.2.2.2.2.2.2.1,()))))))))))))),x.2.1.2.1,r28.1.1,())).bind fun r29=>
 some ((true,()),(r29.2.1,()))
 else
 if (x.2.1.1==(14:Int)) then
 if 0≤r25.1.1∧r25.1.1< ((x.1.2.1.length:Nat):Int) then
 ((x.1.2.1)[(r25.1.1).toNat]?).bind fun y30=>
 (F_ba (x.1,x.2.1.2.1,y30,())).bind fun r31=>
 some ((true,()),(r31.2.1,()))
 else none
 else
 if (leI (1000:Int) r25.1.1) then
 let v32:=(IntKind.i64.wrap (r25.1.1-(1000:Int)))
 if 0≤x.2.1.2.1∧x.2.1.2.1< ((x.1.2.2.2.1.length:Nat):Int) then
 ((x.1.2.2.2.1)[(x.2.1.2.1).toNat]?).bind fun y33=>
 (F_bd ((x.1.2.2.2.1,(x.1.2.2.2.2.1,(x.1.2.2.2.2.2.1,(x.1.2.2.2.2.2.2.1,(x.1.2.2.2.2.2.2.2.1,(x.1.2.2.2.2.2.2.2.2.1,(x.1.2.2.2.2.2.2.2.2.2.1,(x.1.2.2.2.2.2.2.2.2.2.2.1,(x.1.2.2.2.2.2.2.2.2.2.2.2.1,()))))))))),v32,y33,())).bind fun r34=>
 some ((true,()),((x.1.1,(x.1.2.1,(r34.1.1,(r34.2.1.1,(r34.2.1.2.1,(r34.2.1.2.2.1,(r34.2.1.2.2.2.1,(r34.2.1.2.2.2.2.1,(r34.2.1.2.2.2.2.2.1,(r34.2.1.2.2.2.2.2.2.1,(r34.2.1.2.2.2.2.2.2.2.1,(r34.2.1.2.2.2.2.2.2.2.2.1,(x.1.2.2.2.2.2.2.2.2.2.2.2.2.1,()))))))))))))),()))
 else none
 else
 if 0≤x.2.1.2.1∧x.2.1.2.1< ((x.1.2.2.2.1.length:Nat):Int) then
 ((x.1.2.2.2.1)[(x.2.1.2.1).toNat]?).bind fun y35=>
 if 0≤r25.1.1∧r25.1.1< ((x.1.2.1.length:Nat):Int) then
 ((x.1.2.1)[(r25.1.1).toNat]?).bind fun y36=>
 let v37:=(x.1.2.1.set (r25.1.1).toNat y35)
 some ((true,()),((x.1.1,(v37,(x.1.2.2.1,(x.1.2.2.2.1,(x.1.2.2.2.2.1,(x.1.2.2.2.2.2.1,(x.1.2.2.2.2.2.2.1,(x.1.2.2.2.2.2.2.2.1,(x.1.2.2.2.2.2.2.2.2.1,(x.1.2.2.2.2.2.2.2.2.2.1,(x.1.2.2.2.2.2.2.2.2.2.2.1,(x.1.2.2.2.2.2.2.2.2.2.2.2.1,(x.1.2.2.2.2.2.2.2.2.2.2.2.2.1,()))))))))))))),()))
 else none
 else none
 else
 if (x.2.1.1==(14:Int)) then
 if 0≤r25.1.1∧r25.1.1< ((x.1.2.1.length:Nat):Int) then
 ((x.1.2.1)[(r25.1.1).toNat]?).bind fun y38=>
 (F_ba (x.1,x.2.1.2.1,y38,())).bind fun r39=>
 some ((true,()),(r39.2.1,()))
 else none
 else
 if (leI (1000:Int) r25.1.1) then
 let v40:=(IntKind.i64.wrap (r25.1.1-(1000:Int)))
 if 0≤x.2.1.2.1∧x.2.1.2.1< ((x.1.2.2.2.1.length:Nat):Int) then
 ((x.1.2.2.2.1)[(x.2.1.2.1).toNat]?).bind fun y41=>
 (F_bd ((x.1.2.2.2.1,(x.1.2.2.2.2.1,(x.1.2.2.2.2.2.1,(x.1.2.2.2.2.2.2.1,(x.1.2.2.2.2.2.2.2.1,(x.1.2.2.2.2.2.2.2.2.1,(x.1.2.2.2.2.2.2.2.2.2.1,(x.1.2.2.2.2.2.2.2.2.2.2.1,(x.1.2.2.2.2.2.2.2.2.2.2.2.1,()))))))))),v40,y41,())).bind fun r42=>
 some ((true,()),((x.1.1,(x.1.2.1,(r42.1.1,(r42.2.1.1,(r42.2.1.2.1,(r42.2.1.2.2.1,(r42.2.1.2.2.2.1,(r42.2.1.2.2.2.2.1,(r42.2.1.2.2.2.2.2.1,(r42.2.1.2.2.2.2.2.2.1,(r42.2.1.2.2.2.2.2.2.2.1,(r42.2.1.2.2.2.2.2.2.2.2.1,(x.1.2.2.2.2.2.2.2.2.2.2.2.2.1,()))))))))))))),()))
 else none
 else
 if 0≤x.2.1.2.1∧x.2.1.2.1< ((x.1.2.2.2.1.length:Nat):Int) then
 ((x.1.2.2.2.1)[(x.2.1.2.1).toNat]?).bind fun y43=>
 if 0≤r25.1.1∧r25.1.1< ((x.1.2.1.length:Nat):Int) then
 ((x.1.2.1)[(r25.1.1).toNat]?).bind fun y44=>
 let v45:=(x.1.2.1.set (r25.1.1).toNat y43)
 some ((true,()),((x.1.1,(v45,(x.1.2.2.1,(x.1.2.2.2.1,(x.1.2.2.2.2.1,(x.1.2.2.2.2.2.1,(x.1.2.2.2.2.2.2.1,(x.1.2.2.2.2.2.2.2.1,(x.1.2.2.2.2.2.2.2.2.1,(x.1.2.2.2.2.2.2.2.2.2.1,(x.1.2.2.2.2.2.2.2.2.2.2.1,(x.1.2.2.2.2.2.2.2.2.2.2.2.1,(x.1.2.2.2.2.2.2.2.2.2.2.2.2.1,()))))))))))))),()))
 else none
 else none
 else none
abbrev C_be:Con:=⟨P_be,R_a,F_be,false⟩
abbrev G_be:Env:=[(147,C_aq),(149,C_aw),(199,C_ay),(200,C_az),(201,C_ba),(243,C_bb),(244,C_bd)]
theorem g_be:Qf Tryz.prog G_be:=(Qa s_aq (Qa s_aw (Qa s_ay (Qa s_az (Qa s_ba (Qa s_bb (Qa s_bd Qc)))))))
theorem s_be:Qb Tryz.prog 202 C_be:=fnC (L:=[]) hT g_be Tryz.f202 okP fun _=>by kernel_rfl
def F_bf (x:denP P_n):FO P_n R_c:=
 let v1:=(IntKind.u32.wrap x.1)
 let v2:=(IntKind.i32.wrap v1)
 let v3:=(IntKind.i64.wrap v2)
 some ((v3,()),())
abbrev C_bf:Con:=⟨P_n,R_c,F_bf,false⟩
theorem s_bf:Qb Tryz.prog 245 C_bf:=fnC (L:=[]) hT g_a Tryz.f245 okP fun _=>by kernel_rfl
abbrev P_bg:List PK:=[.ptr Y45,.val Y186]
def F_bg (x:denP P_bg):FO P_bg R_a:=
 if 0≤x.2.1.2.1 then
 ((x.1.1)[(x.2.1.2.1).toNat]?).bind fun y1=>
 if 0≤x.2.1.2.2.1 then
 ((x.1.1)[(x.2.1.2.2.1).toNat]?).bind fun y2=>
 if (x.2.1.1==(16:Int)) then
 some (((y1==y2),()),())
 else
 if (x.2.1.1==(17:Int)) then
 some (((y1 !=y2),()),())
 else
 (F_bf (y1,())).bind fun r3=>
 (F_bf (y2,())).bind fun r4=>
 some (((ltI r3.1.1 r4.1.1),()),())
 else none
 else none
abbrev C_bg:Con:=⟨P_bg,R_a,F_bg,false⟩
abbrev G_bg:Env:=[(245,C_bf)]
theorem g_bg:Qf Tryz.prog G_bg:=(Qa s_bf Qc)
theorem s_bg:Qb Tryz.prog 203 C_bg:=fnC (L:=[]) hT g_bg Tryz.f203 okP fun _=>by kernel_rfl
abbrev P_bh:List PK:=[.ptr Y45,.val YI]
def F_bh (x:denP P_bh):FO P_bh R_c:=
 if (x.2.1==(6:Int)) then
 (F_an (x.1,())).bind fun r1=>
 some ((r1.1.1,()),())
 else
 if (x.2.1==(8:Int)) then
 some ((x.1.2.2.2.2.2.2.1,()),())
 else
 if 0≤x.2.1 then
 ((x.1.2.2.1)[(x.2.1).toNat]?).bind fun y2=>
 some ((y2,()),())
 else none
abbrev C_bh:Con:=⟨P_bh,R_c,F_bh,false⟩
theorem g_bh:Qf Tryz.prog G_ao:=(Qa s_an Qc)
theorem s_bh:Qb Tryz.prog 204 C_bh:=fnC (L:=[]) hT g_bh Tryz.f204 okP fun _=>by kernel_rfl
abbrev P_bi:List PK:=[.box [.own 2 YI,.dat YI,.own 2 YI,.dat .bool,.dat .bool,.dat .bool,.dat YI,.dat Y30,.own 2 YI] [.own 2 YI,.dat YI,.own 2 YI,.dat .bool,.dat .bool,.dat .bool,.dat YI,.dat Y30,.own 2 YI]]
def F_bi (x:denP P_bi):FO P_bi R_ap:=
 if 0≤(2:Int)∧(2:Int)< ((x.1.2.2.1.length:Nat):Int) then
 ((x.1.2.2.1)[((2:Int)).toNat]?).bind fun y1=>
 if 0≤(0:Int)∧(0:Int)< ((x.1.2.2.1.length:Nat):Int) then
 ((x.1.2.2.1)[((0:Int)).toNat]?).bind fun y2=>
 let v3:=(IntKind.i64.wrap ((y2).tdiv (2:Int)))
 let v4:=(IntKind.i64.wrap ((2:Int)+v3))
 if 0≤(0:Int)∧(0:Int)< ((x.1.2.2.1.length:Nat):Int) then
 ((x.1.2.2.1)[((0:Int)).toNat]?).bind fun y5=>
 let v6:=(x.1.2.2.1.set ((0:Int)).toNat v4)
 some ((),((x.1.1,(y1,(v6,(x.1.2.2.2.1,(x.1.2.2.2.2.1,(x.1.2.2.2.2.2.1,(x.1.2.2.2.2.2.2.1,(x.1.2.2.2.2.2.2.2.1,(x.1.2.2.2.2.2.2.2.2.1,()))))))))),()))
 else none
 else none
 else none
abbrev C_bi:Con:=⟨P_bi,R_ap,F_bi,false⟩
theorem s_bi:Qb Tryz.prog 205 C_bi:=fnC (L:=[]) hT g_a Tryz.f205 okP fun _=>by kernel_rfl
def F_bj (x:denP P_ay):FO P_ay R_c:=
 let v1:=(IntKind.u32.wrap x.1)
 let v2:=(IntKind.u32.wrap x.2.1)
 let v3:=(IntKind.u32.wrap (v1*v2))
 let v4:=(IntKind.i64.wrap v3)
 some ((v4,()),())
abbrev C_bj:Con:=⟨P_ay,R_c,F_bj,false⟩
theorem s_bj:Qb Tryz.prog 246 C_bj:=fnC (L:=[]) hT g_a Tryz.f246 okP fun _=>by kernel_rfl
def F_bk (x:denP P_ay):FO P_ay R_c:=
 (F_z (x.2.1,())).bind fun r1=>
 if (r1.1.1==(0:Int)) then
 some (((4294967295:Int),()),())
 else
 (F_bf (x.1,())).bind fun r2=>
 (F_bf (x.2.1,())).bind fun r3=>
 if r3.1.1=0 then none else
 let v4:=(IntKind.i64.wrap ((r2.1.1).tdiv r3.1.1))
 (F_z (v4,())).bind fun r5=>
 some ((r5.1.1,()),())
abbrev C_bk:Con:=⟨P_ay,R_c,F_bk,false⟩
abbrev G_bk:Env:=[(225,C_z),(245,C_bf)]
theorem g_bk:Qf Tryz.prog G_bk:=(Qa s_z (Qa s_bf Qc))
theorem s_bk:Qb Tryz.prog 247 C_bk:=fnC (L:=[]) hT g_bk Tryz.f247 okP fun _=>by kernel_rfl
def F_bl (x:denP P_ay):FO P_ay R_c:=
 (F_z (x.2.1,())).bind fun r1=>
 if (r1.1.1==(0:Int)) then
 (F_z (x.1,())).bind fun r2=>
 some ((r2.1.1,()),())
 else
 (F_bf (x.1,())).bind fun r3=>
 (F_bf (x.2.1,())).bind fun r4=>
 if r4.1.1=0 then none else
 let v5:=((r3.1.1).tmod r4.1.1)
 (F_z (v5,())).bind fun r6=>
 some ((r6.1.1,()),())
abbrev C_bl:Con:=⟨P_ay,R_c,F_bl,false⟩
theorem g_bl:Qf Tryz.prog G_bk:=(Qa s_z (Qa s_bf Qc))
theorem s_bl:Qb Tryz.prog 248 C_bl:=fnC (L:=[]) hT g_bl Tryz.f248 okP fun _=>by kernel_rfl
def F_bm (x:denP P_e):FO P_e R_r:=
 if (x.1==(1:Int)) then
 let v1:=(IntKind.u32.wrap x.2.1)
 let v2:=(IntKind.u32.wrap x.2.2.1)
 let v3:=(iand .u32 v1 v2)
 let v4:=(IntKind.i64.wrap v3)
 some ((((0:Int),(v4,())),()),())
 else
 if (x.1==(2:Int)) then
 let v5:=(IntKind.u32.wrap x.2.1)
 let v6:=(IntKind.u32.wrap x.2.2.1)
 let v7:=(ior .u32 v5 v6)
 let v8:=(IntKind.i64.wrap v7)
 some ((((0:Int),(v8,())),()),())
 else
 if (x.1==(3:Int)) then
 let v9:=(IntKind.u32.wrap x.2.1)
 let v10:=(IntKind.u32.wrap x.2.2.1)
 let v11:=(ixor .u32 v9 v10)
 let v12:=(IntKind.i64.wrap v11)
 some ((((0:Int),(v12,())),()),())
 else
 some ((((3:Int),((0:Int),())),()),())
abbrev C_bm:Con:=⟨P_e,R_r,F_bm,false⟩
theorem s_bm:Qb Tryz.prog 249 C_bm:=fnC (L:=[]) hT g_a Tryz.f249 okP fun _=>by kernel_rfl
abbrev P_bn:List PK:=[.val YI,.val YI,.val .bool]
def F_bn (x:denP P_bn):FO P_bn R_c:=
 let v1:=(IntKind.u32.wrap x.2.1)
 let v2:=((v1).tmod (32:Int))
 let v3:=(IntKind.u64.wrap v2)
 if x.2.2.1 then
 let v4:=(IntKind.u32.wrap x.1)
 if v3< 0 then none else
 let v5:=(IntKind.u32.wrap (v4*2 ^ (min (v3).toNat 32)))
 let v6:=(IntKind.i64.wrap v5)
 some ((v6,()),())
 else
 let v7:=(IntKind.u32.wrap x.1)
 if v3< 0 then none else
 let v8:=((v7).fdiv (2 ^ (min (v3).toNat 32)))
 let v9:=(IntKind.i64.wrap v8)
 some ((v9,()),())
abbrev C_bn:Con:=⟨P_bn,R_c,F_bn,false⟩
theorem s_bn:Qb Tryz.prog 250 C_bn:=fnC (L:=[]) hT g_a Tryz.f250 okP fun _=>by kernel_rfl
def F_bo (x:denP P_e):FO P_e R_c:=
 if (x.1==(1:Int)) then
 (F_ay (x.2.1,x.2.2.1,())).bind fun r1=>
 some ((r1.1.1,()),())
 else
 if (x.1==(2:Int)) then
 let v2:=(IntKind.u32.wrap x.2.1)
 let v3:=(IntKind.u32.wrap x.2.2.1)
 let v4:=(IntKind.u32.wrap (v2-v3))
 let v5:=(IntKind.i64.wrap v4)
 some ((v5,()),())
 else
 if (x.1==(3:Int)) then
 (F_bj (x.2.1,x.2.2.1,())).bind fun r6=>
 some ((r6.1.1,()),())
 else
 if (x.1==(4:Int)) then
 (F_bk (x.2.1,x.2.2.1,())).bind fun r7=>
 some ((r7.1.1,()),())
 else
 if (x.1==(5:Int)) then
 (F_bl (x.2.1,x.2.2.1,())).bind fun r8=>
 some ((r8.1.1,()),())
 else
 if (x.1==(6:Int)) then
 let v9:=(IntKind.i64.wrap (x.1-(6:Int)))
 let v10:=(IntKind.i64.wrap (v9+(1:Int)))
 (F_bm (v10,x.2.1,x.2.2.1,())).bind fun r11=>
 some ((r11.1.1.2.1,()),())
 else
 if (x.1==(7:Int)) then
 let v12:=(IntKind.i64.wrap (x.1-(6:Int)))
 let v13:=(IntKind.i64.wrap (v12+(1:Int)))
 (F_bm (v13,x.2.1,x.2.2.1,())).bind fun r14=>
 some ((r14.1.1.2.1,()),())
 else
 if (x.1==(8:Int)) then
 let v15:=(IntKind.i64.wrap (x.1-(6:Int)))
 let v16:=(IntKind.i64.wrap (v15+(1:Int)))
 (F_bm (v16,x.2.1,x.2.2.1,())).bind fun r17=>
 some ((r17.1.1.2.1,()),())
 else
 if (x.1==(9:Int)) then
 (F_bn (x.2.1,x.2.2.1,true,())).bind fun r18=>
 some ((r18.1.1,()),())
 else
 if (x.1==(10:Int)) then
 (F_bn (x.2.1,x.2.2.1,false,())).bind fun r19=>
 some ((r19.1.1,()),())
 else
 (F_bf (x.2.1,())).bind fun r20=>
 (F_bf (x.2.2.1,())).bind fun r21=>
 if (ltI r20.1.1 r21.1.1) then
 some (((1:Int),()),())
 else
 some (((0:Int),()),())
abbrev C_bo:Con:=⟨P_e,R_c,F_bo,false⟩
abbrev G_bo:Env:=[(199,C_ay),(245,C_bf),(246,C_bj),(247,C_bk),(248,C_bl),(249,C_bm),(250,C_bn)]
theorem g_bo:Qf Tryz.prog G_bo:=(Qa s_ay (Qa s_bf (Qa s_bj (Qa s_bk (Qa s_bl (Qa s_bm (Qa s_bn Qc)))))))
theorem s_bo:Qb Tryz.prog 206 C_bo:=fnC (L:=[]) hT g_bo Tryz.f206 okP fun _=>by kernel_rfl
def F_bp (x:denP P_be):FO P_be R_a:=
 (F_ay (x.1.2.2.2.2.1,(1:Int),())).bind fun r1=>
 (F_az (x.2.1.2.2.2.1,())).bind fun r2=>
 (F_ay (x.1.2.2.2.2.1,r2.1.1,())).bind fun r3=>
 if (x.2.1.1==(12:Int)) then
 if 0≤x.2.1.2.2.1∧x.2.1.2.2.1< ((x.1.2.2.2.1.length:Nat):Int) then
 ((x.1.2.2.2.1)[(x.2.1.2.2.1).toNat]?).bind fun y4=>
 (F_az (x.2.1.2.2.2.1,())).bind fun r5=>
 (F_ay (y4,r5.1.1,())).bind fun r6=>
 (F_ba (x.1,x.2.1.2.1,r6.1.1,())).bind fun r7=>
 some ((true,()),((r7.2.1.1,(r7.2.1.2.1,(r7.2.1.2.2.1,(r7.2.1.2.2.2.1,(r1.1.1,(r7.2.1.2.2.2.2.2.1,(r7.2.1.2.2.2.2.2.2.1,(r7.2.1.2.2.2.2.2.2.2.1,(r7.2.1.2.2.2.2.2.2.2.2.1,(r7.2.1.2.2.2.2.2.2.2.2.2.1,(r7.2.1.2.2.2.2.2.2.2.2.2.2.1,(r7.2.1.2.2.2.2.2.2.2.2.2.2.2.1,(r7.2.1.2.2.2.2.2.2.2.2.2.2.2.2.1,()))))))))))))),()))
 else none
 else
 if (x.2.1.1==(13:Int)) then
 let v8:=(IntKind.i64.wrap (x.2.1.2.2.2.1*(65536:Int)))
 (F_ba (x.1,x.2.1.2.1,v8,())).bind fun r9=>
 some ((true,()),((r9.2.1.1,(r9.2.1.2.1,(r9.2.1.2.2.1,(r9.2.1.2.2.2.1,(r1.1.1,(r9.2.1.2.2.2.2.2.1,(r9.2.1.2.2.2.2.2.2.1,(r9.2.1.2.2.2.2.2.2.2.1,(r9.2.1.2.2.2.2.2.2.2.2.1,(r9.2.1.2.2.2.2.2.2.2.2.2.1,(r9.2.1.2.2.2.2.2.2.2.2.2.2.1,(r9.2.1.2.2.2.2.2.2.2.2.2.2.2.1,(r9.2.1.2.2.2.2.2.2.2.2.2.2.2.2.1,()))))))))))))),()))
 else
 if (x.2.1.1==(14:Int)) then
 (F_be (x.1,x.2.1,())).bind fun r10=>
 if (!r10.1.1) then
 some ((false,()),(r10.2.1,()))
 else
 some ((true,()),((r10.2.1.1,(r10.2.1.2.1,(r10.2.1.2.2.1,(r10.2.1.2.2.2.1,(r1.1.1,(r10.2.1.2.2.2.2.2.1,(r10.2.1.2.2.2.2.2.2.1,(r10.2.1.2.2.2.2.2.2.2.1,(r10.2.1.2.2.2.2.2.2.2.2.1,(r10.2.1.2.2.2.2.2.2.2.2.2.1,(r10.2.1.2.2.2.2.2.2.2.2.2.2.1,(r10.2.1.2.2.2.2.2.2.2.2.2.2.2.1,(r10.2.1.2.2.2.2.2.2.2.2.2.2.2.2.1,()))))))))))))),()))
 else
 if (x.2.1.1==(15:Int)) then
 (F_be (x.1,x.2.1,())).bind fun r11=>
 if (!r11.1.1) then
 some ((false,()),(r11.2.1,()))
 else
 some ((true,()),((r11.2.1.1,(r11.2.1.2.1,(r11.2.1.2.2.1,(r11.2.1.2.2.2.1,(r1.1.1,(r11.2.1.2.2.2.2.2.1,(r11.2.1.2.2.2.2.2.2.1,(r11.2.1.2.2.2.2.2.2.2.1,(r11.2.1.2.2.2.2.2.2.2.2.1,(r11.2.1.2.2.2.2.2.2.2.2.2.1,(r11.2.1.2.2.2.2.2.2.2.2.2.2.1,(r11.2.1.2.2.2.2.2.2.2.2.2.2.2.1,(r11.2.1.2.2.2.2.2.2.2.2.2.2.2.2.1,()))))))))))))),()))
 else
 if (x.2.1.1==(16:Int)) then
 (F_bg ((x.1.2.2.2.1,(x.1.2.2.2.2.1,(x.1.2.2.2.2.2.1,(x.1.2.2.2.2.2.2.1,(x.1.2.2.2.2.2.2.2.1,(x.1.2.2.2.2.2.2.2.2.1,(x.1.2.2.2.2.2.2.2.2.2.1,(x.1.2.2.2.2.2.2.2.2.2.2.1,(x.1.2.2.2.2.2.2.2.2.2.2.2.1,()))))))))),x.2.1,())).bind fun r12=>
 if r12.1.1 then
 some ((true,()),((x.1.1,(x.1.2.1,(x.1.2.2.1,(x.1.2.2.2.1,(r3.1.1,(x.1.2.2.2.2.2.1,(x.1.2.2.2.2.2.2.1,(x.1.2.2.2.2.2.2.2.1,(x.1.2.2.2.2.2.2.2.2.1,(x.1.2.2.2.2.2.2.2.2.2.1,(x.1.2.2.2.2.2.2.2.2.2.2.1,(x.1.2.2.2.2.2.2.2.2.2.2.2.1,(x.1.2.2.2.2.2.2.2.2.2.2.2.2.1,()))))))))))))),()))
 else
 some ((true,()),((x.1.1,(x.1.2.1,(x.1.2.2.1,(x.1.2.2.2.1,(r1.1.1,(x.1.2.2.2.2.2.1,(x.1.2.2.2.2.2.2.1,(x.1.2.2.2.2.2.2.2.1,(x.1.2.2.2.2.2.2.2.2.1,(x.1.2.2.2.2.2.2.2.2.2.1,(x.1.2.2.2.2.2.2.2.2.2.2.1,(x.1.2.2.2.2.2.2.2.2.2.2.2.1,(x.1.2.2.2.2.2.2.2.2.2.2.2.2.1,()))))))))))))),()))
 else
 if (x.2.1.1==(17:Int)) then
 (F_bg ((x.1.2.2.2.1,(x.1.2.2.2.2.1,(x.1.2.2.2.2.2.1,(x.1.2.2.2.2.2.2.1,(x.1.2.2.2.2.2.2.2.1,(x.1.2.2.2.2.2.2.2.2.1,(x.1.2.2.2.2.2.2.2.2.2.1,(x.1.2.2.2.2.2.2.2.2.2.2.1,(x.1.2.2.2.2.2.2.2.2.2.2.2.1,()))))))))),x.2.1,())).bind fun r13=>
 if r13.1.1 then
 some ((true,()),((x.1.1,(x.1.2.1,(x.1.2.2.1,(x.1.2.2.2.1,(r3.1.1,(x.1.2.2.2.2.2.1,(x.1.2.2.2.2.2.2.1,(x.1.2.2.2.2.2.2.2.1,(x.1.2.2.2.2.2.2.2.2.1,(x.1.2.2.2.2.2.2.2.2.2.1,(x.1.2.2.2.2.2.2.2.2.2.2.1,(x.1.2.2.2.2.2.2.2.2.2.2.2.1,(x.1.2.2.2.2.2.2.2.2.2.2.2.2.1,()))))))))))))),()))
 else
 some ((true,()),((x.1.1,(x.1.2.1,(x.1.2.2.1,(x.1.2.2.2.1,(r1.1.1,(x.1.2.2.2.2.2.1,(x.1.2.2.2.2.2.2.1,(x.1.2.2.2.2.2.2.2.1,(x.1.2.2.2.2.2.2.2.2.1,(x.1.2.2.2.2.2.2.2.2.2.1,(x.1.2.2.2.2.2.2.2.2.2.2.1,(x.1.2.2.2.2.2.2.2.2.2.2.2.1,(x.1.2.2.2.2.2.2.2.2.2.2.2.2.1,()))))))))))))),()))
 else
 if (x.2.1.1==(18:Int)) then
 (F_bg ((x.1.2.2.2.1,(x.1.2.2.2.2.1,(x.1.2.2.2.2.2.1,(x.1.2.2.2.2.2.2.1,(x.1.2.2.2.2.2.2.2.1,(x.1.2.2.2.2.2.2.2.2.1,(x.1.2.2.2.2.2.2.2.2.2.1,(x.1.2.2.2.2.2.2.2.2.2.2.1,(x.1.2.2.2.2.2.2.2.2.2.2.2.1,()))))))))),x.2.1,())).bind fun r14=>
 if r14.1.1 then
 some ((true,()),((x.1.1,(x.1.2.1,(x.1.2.2.1,(x.1.2.2.2.1,(r3.1.1,(x.1.2.2.2.2.2.1,(x.1.2.2.2.2.2.2.1,(x.1.2.2.2.2.2.2.2.1,(x.1.2.2.2.2.2.2.2.2.1,(x.1.2.2.2.2.2.2.2.2.2.1,(x.1.2.2.2.2.2.2.2.2.2.2.1,(x.1.2.2.2.2.2.2.2.2.2.2.2.1,(x.1.2.2.2.2.2.2.2.2.2.2.2.2.1,()))))))))))))),()))
 else
 some ((true,()),((x.1.1,(x.1.2.1,(x.1.2.2.1,(x.1.2.2.2.1,(r1.1.1,(x.1.2.2.2.2.2.1,(x.1.2.2.2.2.2.2.1,(x.1.2.2.2.2.2.2.2.1,(x.1.2.2.2.2.2.2.2.2.1,(x.1.2.2.2.2.2.2.2.2.2.1,(x.1.2.2.2.2.2.2.2.2.2.2.1,(x.1.2.2.2.2.2.2.2.2.2.2.2.1,(x.1.2.2.2.2.2.2.2.2.2.2.2.2.1,()))))))))))))),()))
 else
 if (x.2.1.1==(19:Int)) then
 (F_ba (x.1,x.2.1.2.1,r1.1.1,())).bind fun r15=>
 some ((true,()),((r15.2.1.1,(r15.2.1.2.1,(r15.2.1.2.2.1,(r15.2.1.2.2.2.1,(r3.1.1,(r15.2.1.2.2.2.2.2.1,(r15.2.1.2.2.2.2.2.2.1,(r15.2.1.2.2.2.2.2.2.2.1,(r15.2.1.2.2.2.2.2.2.2.2.1,(r15.2.1.2.2.2.2.2.2.2.2.2.1,(r15.2.1.2.2.2.2.2.2.2.2.2.2.1,(r15.2.1.2.2.2.2.2.2.2.2.2.2.2.1,(r15.2.1.2.2.2.2.2.2.2.2.2.2.2.2.1,()))))))))))))),()))
 else
 if (x.2.1.1==(20:Int)) then
 if 0≤x.2.1.2.2.1∧x.2.1.2.2.1< ((x.1.2.2.2.1.length:Nat):Int) then
 ((x.1.2.2.2.1)[(x.2.1.2.2.1).toNat]?).bind fun y16=>
 (F_az (x.2.1.2.2.2.1,())).bind fun r17=>
 (F_ay (y16,r17.1.1,())).bind fun r18=>
 (F_ba (x.1,x.2.1.2.1,r1.1.1,())).bind fun r19=>
 some ((true,()),((r19.2.1.1,(r19.2.1.2.1,(r19.2.1.2.2.1,(r19.2.1.2.2.2.1,(r18.1.1,(r19.2.1.2.2.2.2.2.1,(r19.2.1.2.2.2.2.2.2.1,(r19.2.1.2.2.2.2.2.2.2.1,(r19.2.1.2.2.2.2.2.2.2.2.1,(r19.2.1.2.2.2.2.2.2.2.2.2.1,(r19.2.1.2.2.2.2.2.2.2.2.2.2.1,(r19.2.1.2.2.2.2.2.2.2.2.2.2.2.1,(r19.2.1.2.2.2.2.2.2.2.2.2.2.2.2.1,()))))))))))))),()))
 else none
 else
 if (x.2.1.1==(21:Int)) then
 (F_bh ((x.1.2.2.2.1,(x.1.2.2.2.2.1,(x.1.2.2.2.2.2.1,(x.1.2.2.2.2.2.2.1,(x.1.2.2.2.2.2.2.2.1,(x.1.2.2.2.2.2.2.2.2.1,(x.1.2.2.2.2.2.2.2.2.2.1,(x.1.2.2.2.2.2.2.2.2.2.2.1,(x.1.2.2.2.2.2.2.2.2.2.2.2.1,()))))))))),x.2.1.2.2.2.1,())).bind fun r20=>
 (F_ba (x.1,x.2.1.2.1,r20.1.1,())).bind fun r21=>
 some ((true,()),((r21.2.1.1,(r21.2.1.2.1,(r21.2.1.2.2.1,(r21.2.1.2.2.2.1,(r1.1.1,(r21.2.1.2.2.2.2.2.1,(r21.2.1.2.2.2.2.2.2.1,(r21.2.1.2.2.2.2.2.2.2.1,(r21.2.1.2.2.2.2.2.2.2.2.1,(r21.2.1.2.2.2.2.2.2.2.2.2.1,(r21.2.1.2.2.2.2.2.2.2.2.2.2.1,(r21.2.1.2.2.2.2.2.2.2.2.2.2.2.1,(r21.2.1.2.2.2.2.2.2.2.2.2.2.2.2.1,()))))))))))))),()))
 else
 if (x.2.1.1==(22:Int)) then
 if 0≤x.2.1.2.2.1∧x.2.1.2.2.1< ((x.1.2.2.2.1.length:Nat):Int) then
 ((x.1.2.2.2.1)[(x.2.1.2.2.1).toNat]?).bind fun y22=>
 (F_bc ((x.1.2.2.2.1,(x.1.2.2.2.2.1,(x.1.2.2.2.2.2.1,(x.1.2.2.2.2.2.2.1,(x.1.2.2.2.2.2.2.2.1,(x.1.2.2.2.2.2.2.2.2.1,(x.1.2.2.2.2.2.2.2.2.2.1,(x.1.2.2.2.2.2.2.2.2.2.2.1,(x.1.2.2.2.2.2.2.2.2.2.2.2.1,()))))))))),x.2.1.2.2.2.1,y22,())).bind fun r23=>
 some ((true,()),((x.1.1,(x.1.2.1,(x.1.2.2.1,(r23.2.1.1,(r1.1.1,(r23.2.1.2.2.1,(r23.2.1.2.2.2.1,(r23.2.1.2.2.2.2.1,(r23.2.1.2.2.2.2.2.1,(r23.2.1.2.2.2.2.2.2.1,(r23.2.1.2.2.2.2.2.2.2.1,(r23.2.1.2.2.2.2.2.2.2.2.1,(x.1.2.2.2.2.2.2.2.2.2.2.2.2.1,()))))))))))))),()))
 else none
 else
 if (x.2.1.1==(23:Int)) then
 (F_aq (x.1,(5:Int),(0:Int),())).bind fun r24=>
 some ((false,()),(r24.2.1,()))
 else
 if (x.2.1.1==(24:Int)) then
 (F_bi ((x.1.2.2.2.1,(x.1.2.2.2.2.1,(x.1.2.2.2.2.2.1,(x.1.2.2.2.2.2.2.1,(x.1.2.2.2.2.2.2.2.1,(x.1.2.2.2.2.2.2.2.2.1,(x.1.2.2.2.2.2.2.2.2.2.1,(x.1.2.2.2.2.2.2.2.2.2.2.1,(x.1.2.2.2.2.2.2.2.2.2.2.2.1,()))))))))),())).bind fun r25=>
 some ((true,()),((x.1.1,(x.1.2.1,(x.1.2.2.1,(r25.2.1.1,(r25.2.1.2.1,(r25.2.1.2.2.1,(r25.2.1.2.2.2.1,(r25.2.1.2.2.2.2.1,(r25.2.1.2.2.2.2.2.1,(r25.2.1.2.2.2.2.2.2.1,(r25.2.1.2.2.2.2.2.2.2.1,(r25.2.1.2.2.2.2.2.2.2.2.1,(x.1.2.2.2.2.2.2.2.2.2.2.2.2.1,()))))))))))))),()))
 else
 if (x.2.1.1==(25:Int)) then
 some ((true,()),((x.1.1,(x.1.2.1,(x.1.2.2.1,(x.1.2.2.2.1,(r1.1.1,(x.1.2.2.2.2.2.1,(x.1.2.2.2.2.2.2.1,(true,(x.1.2.2.2.2.2.2.2.2.1,(x.1.2.2.2.2.2.2.2.2.2.1,(x.1.2.2.2.2.2.2.2.2.2.2.1,(x.1.2.2.2.2.2.2.2.2.2.2.2.1,(x.1.2.2.2.2.2.2.2.2.2.2.2.2.1,()))))))))))))),()))
 else
 if (x.2.1.1==(26:Int)) then
 some ((true,()),((x.1.1,(x.1.2.1,(x.1.2.2.1,(x.1.2.2.2.1,(x.1.2.2.2.2.1,(x.1.2.2.2.2.2.1,(true,(x.1.2.2.2.2.2.2.2.1,(x.1.2.2.2.2.2.2.2.2.1,(x.1.2.2.2.2.2.2.2.2.2.1,(x.1.2.2.2.2.2.2.2.2.2.2.1,(x.1.2.2.2.2.2.2.2.2.2.2.2.1,(x.1.2.2.2.2.2.2.2.2.2.2.2.2.1,()))))))))))))),()))
 else
 if 0≤x.2.1.2.2.1∧x.2.1.2.2.1< ((x.1.2.2.2.1.length:Nat):Int) then
 ((x.1.2.2.2.1)[(x.2.1.2.2.1).toNat]?).bind fun y26=>
 if 0≤x.2.1.2.2.2.1∧x.2.1.2.2.2.1< ((x.1.2.2.2.1.length:Nat):Int) then
 ((x.1.2.2.2.1)[(x.2.1.2.2.2.1).toNat]?).bind fun y27=>
 (F_bo (x.2.1.1,y26,y27,())).bind fun r28=>
 (F_ba (x.1,x.2.1.2.1,r28.1.1,())).bind fun r29=>
 some ((true,()),((r29.2.1.1,(r29.2.1.2.1,(r29.2.1.2.2.1,(r29.2.1.2.2.2.1,(r1.1.1,(r29.2.1.2.2.2.2.2.1,(r29.2.1.2.2.2.2.2.2.1,(r29.2.1.2.2.2.2.2.2.2.1,(r29.2.1.2.2.2.2.2.2.2.2.1,(r29.2.1.2.2.2.2.2.2.2.2.2.1,(r29.2.1.2.2.2.2.2.2.2.2.2.2.1,(r29.2.1.2.2.2.2.2.2.2.2.2.2.2.1,(r29.2.1.2.2.2.2.2.2.2.2.2.2.2.2.1,()))))))))))))),()))
 else none
 else none
abbrev C_bp:Con:=⟨P_be,R_a,F_bp,false⟩
abbrev G_bp:Env:=[(147,C_aq),(183,C_bc),(199,C_ay),(200,C_az),(201,C_ba),(202,C_be),(203,C_bg),(204,C_bh),(205,C_bi),(206,C_bo)]
theorem g_bp:Qf Tryz.prog G_bp:=(Qa s_aq (Qa s_bc (Qa s_ay (Qa s_az (Qa s_ba (Qa s_be (Qa s_bg (Qa s_bh (Qa s_bi (Qa s_bo Qc))))))))))
theorem s_bp:Qb Tryz.prog 151 C_bp:=fnC (L:=[]) hT g_bp Tryz.f151 okP fun _=>by kernel_rfl
def F_bq (x:denP P_ay):FO P_ay R_c:=
 if (ltI x.1 x.2.1) then
 some ((x.1,()),())
 else
 some ((x.2.1,()),())
abbrev C_bq:Con:=⟨P_ay,R_c,F_bq,false⟩
theorem s_bq:Qb Tryz.prog 152 C_bq:=fnC (L:=[]) hT g_a Tryz.f152 okP fun _=>by kernel_rfl
abbrev P_br:List PK:=[.box [.dat Y26,.own 2 YI,.dat YI,.own 2 YI,.dat YI,.own 2 YI,.dat .bool,.dat .bool,.dat .bool,.dat YI,.dat Y30,.own 2 YI,.dat YI] [.dat Y26,.own 2 YI,.dat YI,.own 2 YI,.dat YI,.own 2 YI,.dat .bool,.dat .bool,.dat .bool,.dat YI,.dat Y30,.own 2 YI,.dat YI]]
def F_br (x:denP P_br):FO P_br R_ap:=
 if x.1.2.2.2.2.2.2.1 then
 some ((),((x.1.1,(x.1.2.1,((-1:Int),(x.1.2.2.2.1,(x.1.2.2.2.2.1,(x.1.2.2.2.2.2.1,(x.1.2.2.2.2.2.2.1,(x.1.2.2.2.2.2.2.2.1,(x.1.2.2.2.2.2.2.2.2.1,(x.1.2.2.2.2.2.2.2.2.2.1,(x.1.2.2.2.2.2.2.2.2.2.2.1,(x.1.2.2.2.2.2.2.2.2.2.2.2.1,((-1:Int),()))))))))))))),()))
 else
 (F_ao ((x.1.2.2.2.1,(x.1.2.2.2.2.1,(x.1.2.2.2.2.2.1,(x.1.2.2.2.2.2.2.1,(x.1.2.2.2.2.2.2.2.1,(x.1.2.2.2.2.2.2.2.2.1,(x.1.2.2.2.2.2.2.2.2.2.1,(x.1.2.2.2.2.2.2.2.2.2.2.1,(x.1.2.2.2.2.2.2.2.2.2.2.2.1,()))))))))),())).bind fun r1=>
 if (leI (0:Int) r1.1.1) then
 let v2:=(IntKind.i64.wrap ((16:Int)+r1.1.1))
 (F_aq ((x.1.1,(x.1.2.1,((-1:Int),(x.1.2.2.2.1,(x.1.2.2.2.2.1,(x.1.2.2.2.2.2.1,(x.1.2.2.2.2.2.2.1,(x.1.2.2.2.2.2.2.2.1,(x.1.2.2.2.2.2.2.2.2.1,(x.1.2.2.2.2.2.2.2.2.2.1,(x.1.2.2.2.2.2.2.2.2.2.2.1,(x.1.2.2.2.2.2.2.2.2.2.2.2.1,((-1:Int),()))))))))))))),v2,(0:Int),())).bind fun r3=>
 some ((),(r3.2.1,()))
 else
 if x.1.2.2.2.2.2.2.2.1 then
 (F_an ((x.1.2.2.2.1,(x.1.2.2.2.2.1,(x.1.2.2.2.2.2.1,(x.1.2.2.2.2.2.2.1,(x.1.2.2.2.2.2.2.2.1,(x.1.2.2.2.2.2.2.2.2.1,(x.1.2.2.2.2.2.2.2.2.2.1,(x.1.2.2.2.2.2.2.2.2.2.2.1,(x.1.2.2.2.2.2.2.2.2.2.2.2.1,()))))))))),())).bind fun r4=>
 if 0≤(7:Int)∧(7:Int)< ((x.1.2.2.2.2.2.1.length:Nat):Int) then
 ((x.1.2.2.2.2.2.1)[((7:Int)).toNat]?).bind fun y5=>
 let v6:=(iand .i64 r4.1.1 y5)
 if (v6==(0:Int)) then
 some ((),((x.1.1,(x.1.2.1,((-1:Int),(x.1.2.2.2.1,(x.1.2.2.2.2.1,(x.1.2.2.2.2.2.1,(x.1.2.2.2.2.2.2.1,(x.1.2.2.2.2.2.2.2.1,(x.1.2.2.2.2.2.2.2.2.1,(x.1.2.2.2.2.2.2.2.2.2.1,(x.1.2.2.2.2.2.2.2.2.2.2.1,(x.1.2.2.2.2.2.2.2.2.2.2.2.1,((-1:Int),()))))))))))))),()))
 else
 (F_aw ((x.1.1,(x.1.2.1,((-1:Int),((x.1.2.2.2.1,(x.1.2.2.2.2.1,(x.1.2.2.2.2.2.1,(x.1.2.2.2.2.2.2.1,(false,(x.1.2.2.2.2.2.2.2.2.1,(x.1.2.2.2.2.2.2.2.2.2.1,(x.1.2.2.2.2.2.2.2.2.2.2.1,(x.1.2.2.2.2.2.2.2.2.2.2.2.1,()))))))))),((-1:Int),()))))),x.1.2.2.2.2.1,(4:Int),())).bind fun r7=>
 if (r7.1.2.1 !=(0:Int)) then
 (F_aq ((x.1.1,(x.1.2.1,((-1:Int),(x.1.2.2.2.1,(x.1.2.2.2.2.1,(x.1.2.2.2.2.2.1,(x.1.2.2.2.2.2.2.1,(false,(x.1.2.2.2.2.2.2.2.2.1,(x.1.2.2.2.2.2.2.2.2.2.1,(x.1.2.2.2.2.2.2.2.2.2.2.1,(x.1.2.2.2.2.2.2.2.2.2.2.2.1,((-1:Int),()))))))))))))),(2:Int),x.1.2.2.2.2.1,())).bind fun r8=>
 some ((),(r8.2.1,()))
 else
 if 0≤r7.1.1∧r7.1.1< ((x.1.2.1.length:Nat):Int) then
 ((x.1.2.1)[(r7.1.1).toNat]?).bind fun y9=>
 (F_ax (y9,())).bind fun r10=>
 if (!r10.1.2.1) then
 if 0≤r7.1.1∧r7.1.1< ((x.1.2.1.length:Nat):Int) then
 ((x.1.2.1)[(r7.1.1).toNat]?).bind fun y11=>
 (F_aq ((x.1.1,(x.1.2.1,((-1:Int),(x.1.2.2.2.1,(x.1.2.2.2.2.1,(x.1.2.2.2.2.2.1,(x.1.2.2.2.2.2.2.1,(false,(x.1.2.2.2.2.2.2.2.2.1,(x.1.2.2.2.2.2.2.2.2.2.1,(x.1.2.2.2.2.2.2.2.2.2.2.1,(x.1.2.2.2.2.2.2.2.2.2.2.2.1,((-1:Int),()))))))))))))),(1:Int),y11,())).bind fun r12=>
 some ((),(r12.2.1,()))
 else none
 else
 (F_bp ((x.1.1,(x.1.2.1,((-1:Int),(x.1.2.2.2.1,(x.1.2.2.2.2.1,(x.1.2.2.2.2.2.1,(x.1.2.2.2.2.2.2.1,(false,(x.1.2.2.2.2.2.2.2.2.1,(x.1.2.2.2.2.2.2.2.2.2.1,(x.1.2.2.2.2.2.2.2.2.2.2.1,(x.1.2.2.2.2.2.2.2.2.2.2.2.1,((-1:Int),()))))))))))))),r10.1.1,())).bind fun r13=>
 if r13.1.1 then
 let v14:=(IntKind.i64.wrap (r13.2.1.2.2.2.2.2.2.2.2.2.1+(1:Int)))
 (F_bq ((1000000000:Int),v14,())).bind fun r15=>
 some ((),((r13.2.1.1,(r13.2.1.2.1,(r13.2.1.2.2.1,(r13.2.1.2.2.2.1,(r13.2.1.2.2.2.2.1,(r13.2.1.2.2.2.2.2.1,(r13.2.1.2.2.2.2.2.2.1,(r13.2.1.2.2.2.2.2.2.2.1,(r13.2.1.2.2.2.2.2.2.2.2.1,(r15.1.1,(r13.2.1.2.2.2.2.2.2.2.2.2.2.1,(r13.2.1.2.2.2.2.2.2.2.2.2.2.2.1,(r13.2.1.2.2.2.2.2.2.2.2.2.2.2.2.1,()))))))))))))),()))
 else
 some ((),(r13.2.1,()))
 else none
 else none
 else
 (F_aw ((x.1.1,(x.1.2.1,((-1:Int),((x.1.2.2.2.1,(x.1.2.2.2.2.1,(x.1.2.2.2.2.2.1,(x.1.2.2.2.2.2.2.1,(x.1.2.2.2.2.2.2.2.1,(x.1.2.2.2.2.2.2.2.2.1,(x.1.2.2.2.2.2.2.2.2.2.1,(x.1.2.2.2.2.2.2.2.2.2.2.1,(x.1.2.2.2.2.2.2.2.2.2.2.2.1,()))))))))),((-1:Int),()))))),x.1.2.2.2.2.1,(4:Int),())).bind fun r16=>
 if (r16.1.2.1 !=(0:Int)) then
 (F_aq ((x.1.1,(x.1.2.1,((-1:Int),(x.1.2.2.2.1,(x.1.2.2.2.2.1,(x.1.2.2.2.2.2.1,(x.1.2.2.2.2.2.2.1,(x.1.2.2.2.2.2.2.2.1,(x.1.2.2.2.2.2.2.2.2.1,(x.1.2.2.2.2.2.2.2.2.2.1,(x.1.2.2.2.2.2.2.2.2.2.2.1,(x.1.2.2.2.2.2.2.2.2.2.2.2.1,((-1:Int),()))))))))))))),(2:Int),x.1.2.2.2.2.1,())).bind fun r17=>
 some ((),(r17.2.1,()))
 else
 if 0≤r16.1.1∧r16.1.1< ((x.1.2.1.length:Nat):Int) then
 ((x.1.2.1)[(r16.1.1).toNat]?).bind fun y18=>
 (F_ax (y18,())).bind fun r19=>
 if (!r19.1.2.1) then
 if 0≤r16.1.1∧r16.1.1< ((x.1.2.1.length:Nat):Int) then
 ((x.1.2.1)[(r16.1.1).toNat]?).bind fun y20=>
 (F_aq ((x.1.1,(x.1.2.1,((-1:Int),(x.1.2.2.2.1,(x.1.2.2.2.2.1,(x.1.2.2.2.2.2.1,(x.1.2.2.2.2.2.2.1,(x.1.2.2.2.2.2.2.2.1,(x.1.2.2.2.2.2.2.2.2.1,(x.1.2.2.2.2.2.2.2.2.2.1,(x.1.2.2.2.2.2.2.2.2.2.2.1,(x.1.2.2.2.2.2.2.2.2.2.2.2.1,((-1:Int),()))))))))))))),(1:Int),y20,())).bind fun r21=>
 some ((),(r21.2.1,()))
 else none
 else
 (F_bp ((x.1.1,(x.1.2.1,((-1:Int),(x.1.2.2.2.1,(x.1.2.2.2.2.1,(x.1.2.2.2.2.2.1,(x.1.2.2.2.2.2.2.1,(x.1.2.2.2.2.2.2.2.1,(x.1.2.2.2.2.2.2.2.2.1,(x.1.2.2.2.2.2.2.2.2.2.1,(x.1.2.2.2.2.2.2.2.2.2.2.1,(x.1.2.2.2.2.2.2.2.2.2.2.2.1,((-1:Int),()))))))))))))),r19.1.1,())).bind fun r22=>
 if r22.1.1 then
 let v23:=(IntKind.i64.wrap (r22.2.1.2.2.2.2.2.2.2.2.2.1+(1:Int)))
 (F_bq ((1000000000:Int),v23,())).bind fun r24=>
 some ((),((r22.2.1.1,(r22.2.1.2.1,(r22.2.1.2.2.1,(r22.2.1.2.2.2.1,(r22.2.1.2.2.2.2.1,(r22.2.1.2.2.2.2.2.1,(r22.2.1.2.2.2.2.2.2.1,(r22.2.1.2.2.2.2.2.2.2.1,(r22.2.1.2.2.2.2.2.2.2.2.1,(r24.1.1,(r22.2.1.2.2.2.2.2.2.2.2.2.2.1,(r22.2.1.2.2.2.2.2.2.2.2.2.2.2.1,(r22.2.1.2.2.2.2.2.2.2.2.2.2.2.2.1,()))))))))))))),()))
 else
 some ((),(r22.2.1,()))
 else none
abbrev C_br:Con:=⟨P_br,R_ap,F_br,false⟩
abbrev G_br:Env:=[(146,C_ao),(147,C_aq),(148,C_an),(149,C_aw),(150,C_ax),(151,C_bp),(152,C_bq)]
theorem g_br:Qf Tryz.prog G_br:=(Qa s_ao (Qa s_aq (Qa s_an (Qa s_aw (Qa s_ax (Qa s_bp (Qa s_bq Qc)))))))
theorem s_br:Qb Tryz.prog 101 C_br:=fnC (L:=[]) hT g_br Tryz.f101 okP fun _=>by kernel_rfl
abbrev P_bs:List PK:=[.box [.dat Y24,.dat Y25,.dat Y26,.dat Y26,.own 2 YI,.own 46 Y45,.dat YI,.dat YI,.dat YI] [.dat Y24,.dat Y25,.dat Y26,.dat Y26,.own 2 YI,.own 46 Y45,.dat YI,.dat YI,.dat YI],.val YI,.val YI]
abbrev i_bs_1:Shp:={ slots:=[(0,.s (.ptr 9000000 0)),(1,.s (.dat YI)),(2,.s (.dat YI)),(6,.s (.dat YI))],boxes:=[(9000000,[.dat Y24,.dat Y25,.dat Y26,.dat Y26,.own 2 YI,.own 46 Y45,.dat YI,.dat YI,.dat YI])],rows:=[] }
abbrev o_bs_1:List (Ex×Shp):=[(.exit 0,{ slots:=[],boxes:=[(9000000,[.dat Y24,.dat Y25,.dat Y26,.dat Y26,.own 2 YI,.own 46 Y45,.dat YI,.dat YI,.dat YI])],rows:=[] })]
def l_bs_1 (rec:i_bs_1.den→Option (denO o_bs_1)) (u:i_bs_1.den):Option (denO o_bs_1):=
 let v3:=((u.2.1.1.2.2.1.length:Nat):Int)
 if (ltI u.1.2.2.2.1 v3) then
 if 0≤u.1.2.2.2.1 then
 ((u.2.1.1.2.2.1)[(u.1.2.2.2.1).toNat]?).bind fun y4=>
 if (y4.1==u.1.2.1)=true then
 if (y4.2.1==u.1.2.2.1) then
 if 0≤u.1.2.2.1∧u.1.2.2.1< ((u.2.1.1.2.2.2.2.2.1.length:Nat):Int) then
 ((u.2.1.1.2.2.2.2.2.1)[(u.1.2.2.1).toNat]?).bind fun y5=>
 let v6:=(u.2.1.1.2.2.2.2.2.1.set (u.1.2.2.1).toNat (y5.1,(y5.2.1,(y5.2.2.1,(y5.2.2.2.1,(y5.2.2.2.2.1,(true,y5.2.2.2.2.2.2)))))))
 let v7:=(IntKind.i64.wrap (u.1.2.2.2.1+(1:Int)))
 rec (((),(u.1.2.1,(u.1.2.2.1,(v7,())))),(((u.2.1.1.1,(u.2.1.1.2.1,(u.2.1.1.2.2.1,(u.2.1.1.2.2.2.1,(u.2.1.1.2.2.2.2.1,(v6,(u.2.1.1.2.2.2.2.2.2.1,(u.2.1.1.2.2.2.2.2.2.2.1,(u.2.1.1.2.2.2.2.2.2.2.2.1,()))))))))),()),()))
 else none
 else
 let v8:=(IntKind.i64.wrap (u.1.2.2.2.1+(1:Int)))
 rec (((),(u.1.2.1,(u.1.2.2.1,(v8,())))),((u.2.1.1,()),()))
 else
 let v9:=(IntKind.i64.wrap (u.1.2.2.2.1+(1:Int)))
 rec (((),(u.1.2.1,(u.1.2.2.1,(v9,())))),((u.2.1.1,()),()))
 else none
 else
 some (.inl ((),((u.2.1.1,()),())))
def L_bs_1 (x:i_bs_1.den):Option (denO o_bs_1):=Qd l_bs_1 lots x
def F_bs (x:denP P_bs):FO P_bs R_ap:=
 (L_bs_1 (((),(x.2.1,(x.2.2.1,((0:Int),())))),((x.1,()),()))).bind fun z10=>
 match z10 with
 | .inl x11=>
  some ((),(x11.2.1.1,()))
 | .inr z10_=>
  none
abbrev C_bs:Con:=⟨P_bs,R_ap,F_bs,false⟩
abbrev c_bs_1:Cut:=⟨i_bs_1,o_bs_1,fun x=>Qd l_bs_1 lots x⟩
theorem k_bs_1:Qt Tryz.prog 43 (.loop (nav Tryz.f102 [1,0,0])) c_bs_1:=
  Qg (L:=[]) hT g_a (fun _ _=>by kernel_rfl) okP _
theorem r_bs (x):QF T G_a [(1,c_bs_1)] Tryz.f102 C_bs.ps C_bs.rs x=C_bs.F x:=by kernel_rfl
theorem s_bs:Qb Tryz.prog 102 C_bs:=fnC (L:=[(1,c_bs_1)]) hT g_a Tryz.f102 (okS okP (okB (okU k_bs_1))) r_bs
abbrev P_bt:List PK:=[.box [.dat Y24,.dat Y25,.dat Y26,.dat Y26,.own 2 YI,.own 46 Y45,.dat YI,.dat YI,.dat YI] [.dat Y24,.dat Y25,.dat Y26,.dat Y26,.own 2 YI,.own 46 Y45,.dat YI,.dat YI,.dat YI]]
def F_bt (x:denP P_bt):FO P_bt R_ap:=
 if 0≤x.1.2.2.2.2.2.2.1 then
 ((x.1.2.2.2.1)[(x.1.2.2.2.2.2.2.1).toNat]?).bind fun y1=>
 if 0≤y1.1∧y1.1< ((x.1.2.2.2.2.2.1.length:Nat):Int) then
 ((x.1.2.2.2.2.2.1)[(y1.1).toNat]?).bind fun y2=>
 (F_aj ((x.1.1,(x.1.2.1,(x.1.2.2.1,(x.1.2.2.2.1,())))),y1.1,())).bind fun r3=>
 (F_am (y2,r3.1.1,x.1.2.2.2.2.1,())).bind fun r4=>
 (F_br (r4.1.1,())).bind fun r5=>
 if 0≤y1.1∧y1.1< ((x.1.2.2.2.2.2.1.length:Nat):Int) then
 ((x.1.2.2.2.2.2.1)[(y1.1).toNat]?).bind fun y6=>
 let v7:=(x.1.2.2.2.2.2.1.set (y1.1).toNat (r5.2.1.2.2.2.1,(r5.2.1.2.2.2.2.1,(r5.2.1.2.2.2.2.2.1,(r5.2.1.2.2.2.2.2.2.1,(r5.2.1.2.2.2.2.2.2.2.1,(r5.2.1.2.2.2.2.2.2.2.2.1,(r5.2.1.2.2.2.2.2.2.2.2.2.1,(r5.2.1.2.2.2.2.2.2.2.2.2.2.1,(r5.2.1.2.2.2.2.2.2.2.2.2.2.2.1,()))))))))))
 if (leI (0:Int) r5.2.1.2.2.1) then
 (F_bs ((x.1.1,(x.1.2.1,(x.1.2.2.1,(x.1.2.2.2.1,(r5.2.1.2.1,(v7,(x.1.2.2.2.2.2.2.1,(x.1.2.2.2.2.2.2.2.1,(x.1.2.2.2.2.2.2.2.2.1,()))))))))),y1.1,r5.2.1.2.2.1,())).bind fun r8=>
 let v9:=(IntKind.i64.wrap (r8.2.1.2.2.2.2.2.2.2.2.1+(1:Int)))
 let v10:=(IntKind.i64.wrap (r8.2.1.2.2.2.2.2.2.2.1-(1:Int)))
 if (v10==(0:Int)) then
 let v11:=(IntKind.i64.wrap (r8.2.1.2.2.2.2.2.2.1+(1:Int)))
 let v12:=((r8.2.1.2.2.2.1.length:Nat):Int)
 if v12=0 then none else
 let v13:=((v11).tmod v12)
 if 0≤v13 then
 ((r8.2.1.2.2.2.1)[(v13).toNat]?).bind fun y14=>
 some ((),((r8.2.1.1,(r8.2.1.2.1,(r8.2.1.2.2.1,(r8.2.1.2.2.2.1,(r8.2.1.2.2.2.2.1,(r8.2.1.2.2.2.2.2.1,(v13,(y14.2.1,(v9,()))))))))),()))
 else none
 else
 some ((),((r8.2.1.1,(r8.2.1.2.1,(r8.2.1.2.2.1,(r8.2.1.2.2.2.1,(r8.2.1.2.2.2.2.1,(r8.2.1.2.2.2.2.2.1,(r8.2.1.2.2.2.2.2.2.1,(v10,(v9,()))))))))),()))
 else
 let v15:=(IntKind.i64.wrap (x.1.2.2.2.2.2.2.2.2.1+(1:Int)))
 let v16:=(IntKind.i64.wrap (x.1.2.2.2.2.2.2.2.1-(1:Int)))
 if (v16==(0:Int)) then
 let v17:=(IntKind.i64.wrap (x.1.2.2.2.2.2.2.1+(1:Int)))
 let v18:=((x.1.2.2.2.1.length:Nat):Int)
 if v18=0 then none else
 let v19:=((v17).tmod v18)
 if 0≤v19 then
 ((x.1.2.2.2.1)[(v19).toNat]?).bind fun y20=>
 some ((),((x.1.1,(x.1.2.1,(x.1.2.2.1,(x.1.2.2.2.1,(r5.2.1.2.1,(v7,(v19,(y20.2.1,(v15,()))))))))),()))
 else none
 else
 some ((),((x.1.1,(x.1.2.1,(x.1.2.2.1,(x.1.2.2.2.1,(r5.2.1.2.1,(v7,(x.1.2.2.2.2.2.2.1,(v16,(v15,()))))))))),()))
 else none
 else none
 else none
abbrev C_bt:Con:=⟨P_bt,R_ap,F_bt,false⟩
abbrev G_bt:Env:=[(99,C_am),(100,C_aj),(101,C_br),(102,C_bs)]
theorem g_bt:Qf Tryz.prog G_bt:=(Qa s_am (Qa s_aj (Qa s_br (Qa s_bs Qc))))
theorem s_bt:Qb Tryz.prog 36 C_bt:=fnC (L:=[]) hT g_bt Tryz.f36 okP fun _=>by kernel_rfl
abbrev R_bu:List VK:=[.s (.dat Y28)]
def F_bu (x:denP P_m):FO P_m R_bu:=
 (F_m (x.1,())).bind fun r1=>
 (F_c (r1.2.1,(30:Int),())).bind fun r2=>
 if (r2.1.1==(0:Int)) then
 if 0≤(0:Int)∧(0:Int)< ((r1.1.1.1.length:Nat):Int) then
 ((r1.1.1.1)[((0:Int)).toNat]?).bind fun y3=>
 (F_d (r2.2.1,[(-1:Int),(24:Int),(3:Int)],())).bind fun r4=>
 ((r1.1.1.1)[((0:Int)).toNat]?).bind fun y5=>
 if 0≤(0:Int)∧(0:Int)< ((y5.length:Nat):Int) then
 ((r1.1.1.1)[((0:Int)).toNat]?).bind fun y6=>
 let v7:=(r1.1.1.1.set ((0:Int)).toNat (y6.set ((0:Int)).toNat r4.1.1))
 some (((v7,(r1.1.1.2.1,(r1.1.1.2.2.1,(r1.1.1.2.2.2.1,())))),()),(r4.2.1,()))
 else none
 else none
 else
 if (r2.1.1==(1:Int)) then
 if 0≤(0:Int)∧(0:Int)< ((r1.1.1.1.length:Nat):Int) then
 ((r1.1.1.1)[((0:Int)).toNat]?).bind fun y8=>
 ((r1.1.1.1)[((0:Int)).toNat]?).bind fun y9=>
 if (r1.1.1.1.length+[y9].length)*24≤140737488355328 then
 let v10:=(r1.1.1.1++[y9])
 some (((v10,(r1.1.1.2.1,(r1.1.1.2.2.1,(r1.1.1.2.2.2.1,())))),()),(r2.2.1,()))
 else none
 else none
 else
 if (r2.1.1==(2:Int)) then
 some (((([]:List (den Y30)),(r1.1.1.2.1,(r1.1.1.2.2.1,(r1.1.1.2.2.2.1,())))),()),(r2.2.1,()))
 else
 if (r2.1.1==(3:Int)) then
 (F_c (r2.2.1,(3:Int),())).bind fun r11=>
 (F_c (r11.2.1,(4:Int),())).bind fun r12=>
 (F_d (r12.2.1,[(0:Int),(23:Int),(24:Int)],())).bind fun r13=>
 (F_d (r13.2.1,[(5:Int),(4:Int)],())).bind fun r14=>
 (F_d (r14.2.1,[(6:Int),(7:Int),(5:Int)],())).bind fun r15=>
 if (r1.1.1.2.1.length+[(r11.1.1,(r12.1.1,(r13.1.1,(r14.1.1,(r15.1.1,())))))].length)*40≤140737488355328 then
 let v16:=(r1.1.1.2.1++[(r11.1.1,(r12.1.1,(r13.1.1,(r14.1.1,(r15.1.1,())))))])
 some (((r1.1.1.1,(v16,(r1.1.1.2.2.1,(r1.1.1.2.2.2.1,())))),()),(r15.2.1,()))
 else none
 else
 if (r2.1.1==(4:Int)) then
 (F_c (r2.2.1,(3:Int),())).bind fun r17=>
 (F_c (r17.2.1,(4:Int),())).bind fun r18=>
 if (r1.1.1.2.2.1.length+[(r17.1.1,(r18.1.1,())),((0:Int),((1:Int),()))].length)*16≤140737488355328 then
 let v19:=(r1.1.1.2.2.1++[(r17.1.1,(r18.1.1,())),((0:Int),((1:Int),()))])
 some (((r1.1.1.1,(r1.1.1.2.1,(v19,(r1.1.1.2.2.2.1,())))),()),(r18.2.1,()))
 else none
 else
 if (r2.1.1==(5:Int)) then
 (F_d (r2.2.1,[(0:Int),(-1:Int),(3:Int)],())).bind fun r20=>
 (F_d (r20.2.1,[(0:Int),(1:Int),(50:Int),(51:Int)],())).bind fun r21=>
 if 0≤(0:Int)∧(0:Int)< ((r1.1.1.2.2.2.1.length:Nat):Int) then
 ((r1.1.1.2.2.2.1)[((0:Int)).toNat]?).bind fun y22=>
 let v23:=(r1.1.1.2.2.2.1.set ((0:Int)).toNat (r20.1.1,(r21.1.1,())))
 some (((r1.1.1.1,(r1.1.1.2.1,(r1.1.1.2.2.1,(v23,())))),()),(r21.2.1,()))
 else none
 else
 if (r2.1.1==(6:Int)) then
 some (((r1.1.1.1,(r1.1.1.2.1,(r1.1.1.2.2.1,((List.replicate ((9:Int)).toNat (Qby Y38)),())))),()),(r2.2.1,()))
 else
 if (r2.1.1==(7:Int)) then
 if 0≤(0:Int)∧(0:Int)< ((r1.1.1.1.length:Nat):Int) then
 ((r1.1.1.1)[((0:Int)).toNat]?).bind fun y24=>
 let v25:=(r1.1.1.1.set ((0:Int)).toNat ([]:List (den YI)))
 some (((v25,(r1.1.1.2.1,(r1.1.1.2.2.1,(r1.1.1.2.2.2.1,())))),()),(r2.2.1,()))
 else none
 else
 if (r2.1.1==(8:Int)) then
 some (((r1.1.1.1,((List.replicate ((5:Int)).toNat (Qby Y122)),(r1.1.1.2.2.1,(r1.1.1.2.2.2.1,())))),()),(r2.2.1,()))
 else
 some ((r1.1.1,()),(r2.2.1,()))
abbrev C_bu:Con:=⟨P_m,R_bu,F_bu,false⟩
abbrev G_bu:Env:=[(52,C_d),(82,C_c),(130,C_m)]
theorem g_bu:Qf Tryz.prog G_bu:=(Qa s_d (Qa s_c (Qa s_m Qc)))
theorem s_bu:Qb Tryz.prog 83 C_bu:=fnC (L:=[]) hT g_bu Tryz.f83 okP fun _=>by kernel_rfl
def F_bv (x:denP P_n):FO P_n R_ab:=
 (F_e (x.1,(1:Int),(24:Int),())).bind fun r1=>
 if (!r1.1.1) then
 some ((((3:Int),(([]:List (den YI)),())),()),())
 else
 let v2:=(IntKind.i64.wrap (x.1*(8:Int)))
 if v2=v2∧0≤v2∧v2*8≤140737488355328∧v2≤9223372036854775807 then
 some ((((0:Int),((List.replicate (v2).toNat (Qby YI)),())),()),())
 else none
abbrev C_bv:Con:=⟨P_n,R_ab,F_bv,false⟩
theorem g_bv:Qf Tryz.prog G_h:=(Qa s_e Qc)
theorem s_bv:Qb Tryz.prog 133 C_bv:=fnC (L:=[]) hT g_bv Tryz.f133 okP fun _=>by kernel_rfl
abbrev R_bw:List VK:=[.s (.dat Y30)]
abbrev i_bw_3:Shp:={ slots:=[(0,.s (.ptr 9000000 0)),(3,.s (.own 2 YI)),(4,.s (.dat YI))],boxes:=[(9000000,[.dat Y22,.dat YI])],rows:=[] }
abbrev o_bw_3:List (Ex×Shp):=[(.exit 0,{ slots:=[(0,.s (.ptr 9000000 0)),(3,.s (.own 2 YI))],boxes:=[(9000000,[.dat Y22,.dat YI])],rows:=[] })]
def l_bw_3 (rec:i_bw_3.den→Option (denO o_bw_3)) (u:i_bw_3.den):Option (denO o_bw_3):=
 let v7:=((u.1.2.1.length:Nat):Int)
 if (ltI u.1.2.2.1 v7) then
 (F_s (u.2.1.1,(3:Int),())).bind fun r8=>
 if r8.1.1 then
 (F_t (r8.2.1,())).bind fun r9=>
 if 0≤u.1.2.2.1∧u.1.2.2.1< ((u.1.2.1.length:Nat):Int) then
 ((u.1.2.1)[(u.1.2.2.1).toNat]?).bind fun y10=>
 let v11:=(u.1.2.1.set (u.1.2.2.1).toNat r9.1.1)
 let v12:=(IntKind.i64.wrap (u.1.2.2.1+(1:Int)))
 rec (((),(v11,(v12,()))),((r9.2.1,()),()))
 else none
 else
 let v13:=(IntKind.i64.wrap (u.1.2.2.1+(1:Int)))
 rec (((),(u.1.2.1,(v13,()))),((r8.2.1,()),()))
 else
 some (.inl (((),(u.1.2.1,())),((u.2.1.1,()),())))
def L_bw_3 (x:i_bw_3.den):Option (denO o_bw_3):=Qd l_bw_3 lots x
def F_bw (x:denP P_m):FO P_m R_bw:=
 (F_c (x.1,(5:Int),())).bind fun r1=>
 let v2:=(IntKind.i64.wrap ((1:Int)+r1.1.1))
 (F_bv (v2,())).bind fun r3=>
 (L_bw_3 (((),(r3.1.1.2.1,((0:Int),()))),((r1.2.1,()),()))).bind fun z14=>
 match z14 with
 | .inl x15=>
  (F_c (x15.2.1.1,(16:Int),())).bind fun r16=>
  if (r16.1.1==(0:Int)) then
  if 0≤(1:Int)∧(1:Int)≤((x15.1.2.1.length:Nat):Int)∧((x15.1.2.1.length:Nat):Int)≤((x15.1.2.1.length:Nat):Int) then
  some ((((x15.1.2.1.drop (0+((1:Int)).toNat)).take ((((x15.1.2.1.length:Nat):Int)).toNat-((1:Int)).toNat)),()),(r16.2.1,()))
  else none
  else
  if (r16.1.1==(1:Int)) then
  let v17:=((x15.1.2.1.length:Nat):Int)
  (F_c (r16.2.1,v17,())).bind fun r18=>
  (F_d (r18.2.1,[(-1:Int),(4294967296:Int)],())).bind fun r19=>
  if 0≤r18.1.1∧r18.1.1< ((x15.1.2.1.length:Nat):Int) then
  ((x15.1.2.1)[(r18.1.1).toNat]?).bind fun y20=>
  let v21:=(x15.1.2.1.set (r18.1.1).toNat r19.1.1)
  some ((v21,()),(r19.2.1,()))
  else none
  else
  if (r16.1.1==(2:Int)) then
  some (((List.replicate ((200:Int)).toNat (Qby YI)),()),(r16.2.1,()))
  else
  some ((x15.1.2.1,()),(r16.2.1,()))
 | .inr z14_=>
  none
abbrev C_bw:Con:=⟨P_m,R_bw,F_bw,false⟩
abbrev G_bw:Env:=[(52,C_d),(82,C_c),(114,C_t),(115,C_s),(133,C_bv)]
theorem g_bw:Qf Tryz.prog G_bw:=(Qa s_d (Qa s_c (Qa s_t (Qa s_s (Qa s_bv Qc)))))
abbrev c_bw_3:Cut:=⟨i_bw_3,o_bw_3,fun x=>Qd l_bw_3 lots x⟩
theorem k_bw_3:Qt Tryz.prog 44 (.loop (nav Tryz.f84 [1,1,0,1,0,0])) c_bw_3:=
  Qg (L:=[]) hT g_bw (fun _ _=>by kernel_rfl) okP _
theorem r_bw (x):QF T G_bw [(3,c_bw_3)] Tryz.f84 C_bw.ps C_bw.rs x=C_bw.F x:=by kernel_rfl
theorem s_bw:Qb Tryz.prog 84 C_bw:=fnC (L:=[(3,c_bw_3)]) hT g_bw Tryz.f84 (okS okP (okS okP (okS (okS okP (okB (okU k_bw_3))) okP))) r_bw
abbrev R_bx:List VK:=[.g [.own 2 YI,.dat YI,.own 2 YI,.dat .bool,.dat .bool,.dat .bool,.dat YI,.dat Y30,.own 2 YI]]
abbrev i_bx_10:Shp:={ slots:=[(0,.s (.ptr 9000000 0)),(2,.s (.ptr 2 0)),(3,.s (.ptr 3 0)),(5,.s (.dat YI))],boxes:=[(2,[.own 2 YI,.dat YI,.own 2 YI,.dat .bool,.dat .bool,.dat .bool,.dat YI,.own 2 YI,.own 2 YI]),(3,[.own 2 YI,.dat YI,.own 2 YI,.dat .bool,.dat .bool,.dat .bool,.dat YI,.dat Y30,.own 2 YI]),(9000000,[.dat Y22,.dat YI])],rows:=[] }
abbrev o_bx_10:List (Ex×Shp):=[(.exit 2,{ slots:=[(0,.s (.ptr 9000000 0)),(2,.s (.ptr 2 0)),(3,.s (.ptr 3 0))],boxes:=[(2,[.own 2 YI,.dat YI,.own 2 YI,.dat .bool,.dat .bool,.dat .bool,.dat YI,.own 2 YI,.own 2 YI]),(3,[.own 2 YI,.dat YI,.own 2 YI,.dat .bool,.dat .bool,.dat .bool,.dat YI,.dat Y30,.own 2 YI]),(9000000,[.dat Y22,.dat YI])],rows:=[] })]
def l_bx_10 (rec:i_bx_10.den→Option (denO o_bx_10)) (u:i_bx_10.den):Option (denO o_bx_10):=
 if (ltI u.1.2.2.2.1 (11:Int)) then
 (F_s (u.2.1.2.2.1,(2:Int),())).bind fun r38=>
 if r38.1.1 then
 (F_c (r38.2.1,(9:Int),())).bind fun r39=>
 (F_c (r39.2.1,(60:Int),())).bind fun r40=>
 (F_t (r40.2.1,())).bind fun r41=>
 (F_d (r41.2.1,[r39.1.1,r40.1.1,r41.1.1],())).bind fun r42=>
 (F_bc (u.2.1.2.1,u.1.2.2.2.1,r42.1.1,())).bind fun r43=>
 let v44:=(IntKind.i64.wrap (u.1.2.2.2.1+(1:Int)))
 rec (((),((),((),(v44,())))),((u.2.1.1,(r43.2.1,(r42.2.1,()))),()))
 else
 let v45:=(IntKind.i64.wrap (u.1.2.2.2.1+(1:Int)))
 rec (((),((),((),(v45,())))),((u.2.1.1,(u.2.1.2.1,(r38.2.1,()))),()))
 else
 some (.inl (((),((),((),()))),((u.2.1.1,(u.2.1.2.1,(u.2.1.2.2.1,()))),())))
def L_bx_10 (x:i_bx_10.den):Option (denO o_bx_10):=Qd l_bx_10 lots x
abbrev i_bx_3:Shp:={ slots:=[(0,.s (.ptr 9000000 0)),(2,.s (.ptr 2 0)),(3,.s (.ptr 3 0)),(4,.s (.dat YI))],boxes:=[(2,[.own 2 YI,.dat YI,.own 2 YI,.dat .bool,.dat .bool,.dat .bool,.dat YI,.own 2 YI,.own 2 YI]),(3,[.own 2 YI,.dat YI,.own 2 YI,.dat .bool,.dat .bool,.dat .bool,.dat YI,.own 2 YI,.own 2 YI]),(9000000,[.dat Y22,.dat YI])],rows:=[] }
abbrev o_bx_3:List (Ex×Shp):=[(.exit 0,{ slots:=[(0,.s (.ptr 9000000 0)),(2,.s (.ptr 2 0)),(3,.s (.ptr 3 0))],boxes:=[(2,[.own 2 YI,.dat YI,.own 2 YI,.dat .bool,.dat .bool,.dat .bool,.dat YI,.own 2 YI,.own 2 YI]),(3,[.own 2 YI,.dat YI,.own 2 YI,.dat .bool,.dat .bool,.dat .bool,.dat YI,.own 2 YI,.own 2 YI]),(9000000,[.dat Y22,.dat YI])],rows:=[] })]
def l_bx_3 (rec:i_bx_3.den→Option (denO o_bx_3)) (u:i_bx_3.den):Option (denO o_bx_3):=
 if (ltI u.1.2.2.2.1 (16:Int)) then
 (F_s (u.2.1.2.2.1,(3:Int),())).bind fun r9=>
 if r9.1.1 then
 (F_t (r9.2.1,())).bind fun r10=>
 (F_c (r10.2.1,(64:Int),())).bind fun r11=>
 (F_c (r11.2.1,(8:Int),())).bind fun r12=>
 let v13:=(IntKind.i64.wrap ((56:Int)+r12.1.1))
 (F_d (r12.2.1,[r10.1.1,r11.1.1,v13],())).bind fun r14=>
 if 0≤u.1.2.2.2.1∧u.1.2.2.2.1< ((u.2.1.2.1.1.length:Nat):Int) then
 ((u.2.1.2.1.1)[(u.1.2.2.2.1).toNat]?).bind fun y15=>
 let v16:=(u.2.1.2.1.1.set (u.1.2.2.2.1).toNat r14.1.1)
 let v17:=(IntKind.i64.wrap (u.1.2.2.2.1+(1:Int)))
 rec (((),((),((),(v17,())))),((u.2.1.1,((v16,(u.2.1.2.1.2.1,(u.2.1.2.1.2.2.1,(u.2.1.2.1.2.2.2.1,(u.2.1.2.1.2.2.2.2.1,(u.2.1.2.1.2.2.2.2.2.1,(u.2.1.2.1.2.2.2.2.2.2.1,(u.2.1.2.1.2.2.2.2.2.2.2.1,(u.2.1.2.1.2.2.2.2.2.2.2.2.1,()))))))))),(r14.2.1,()))),()))
 else none
 else
 let v18:=(IntKind.i64.wrap (u.1.2.2.2.1+(1:Int)))
 rec (((),((),((),(v18,())))),((u.2.1.1,(u.2.1.2.1,(r9.2.1,()))),()))
 else
 some (.inl (((),((),((),()))),((u.2.1.1,(u.2.1.2.1,(u.2.1.2.2.1,()))),())))
def L_bx_3 (x:i_bx_3.den):Option (denO o_bx_3):=Qd l_bx_3 lots x
def F_bx (x:denP P_m):FO P_m R_bx:=
 (F_c (x.1,(3:Int),())).bind fun r1=>
 if 0≤(0:Int)∧(0:Int)≤r1.1.1∧r1.1.1≤(([(7:Int),(8:Int)].length:Nat):Int) then
 (F_af ((([(7:Int),(8:Int)].drop (0+((0:Int)).toNat)).take ((r1.1.1).toNat-((0:Int)).toNat)),())).bind fun r2=>
 (L_bx_3 (((),((),((),((1:Int),())))),(((([]:List (den YI)),((0:Int),(([]:List (den YI)),(false,(false,(false,((0:Int),(([]:List (den YI)),(([]:List (den YI)),()))))))))),((r2.1.1.2.1,(r2.1.1.2.2.1,(r2.1.1.2.2.2.1,(r2.1.1.2.2.2.2.1,(r2.1.1.2.2.2.2.2.1,(r2.1.1.2.2.2.2.2.2.1,(r2.1.1.2.2.2.2.2.2.2.1,(r2.1.1.2.2.2.2.2.2.2.2.1,(r2.1.1.2.2.2.2.2.2.2.2.2.1,()))))))))),(r1.2.1,()))),()))).bind fun z19=>
 match z19 with
 | .inl x20=>
  (F_c (x20.2.1.2.2.1,(24:Int),())).bind fun r21=>
  (F_c (r21.2.1,(24:Int),())).bind fun r22=>
  (F_t (r22.2.1,())).bind fun r23=>
  (F_d (r23.2.1,[r21.1.1,r22.1.1,r23.1.1],())).bind fun r24=>
  (F_c (r24.2.1,(90:Int),())).bind fun r25=>
  (L_bx_10 (((),((),((),((0:Int),())))),((x20.2.1.1,((x20.2.1.2.1.1,(r24.1.1,(x20.2.1.2.1.2.2.1,(x20.2.1.2.1.2.2.2.1,(x20.2.1.2.1.2.2.2.2.1,(x20.2.1.2.1.2.2.2.2.2.1,(r25.1.1,(x20.2.1.2.1.2.2.2.2.2.2.2.1,(x20.2.1.2.1.2.2.2.2.2.2.2.2.1,()))))))))),(r25.2.1,()))),()))).bind fun z46=>
  match z46 with
  | .inl x47=>
   (F_s (x47.2.1.2.2.1,(3:Int),())).bind fun r48=>
   (F_s (r48.2.1,(8:Int),())).bind fun r49=>
   (F_s (r49.2.1,(20:Int),())).bind fun r50=>
   (F_s (r50.2.1,(20:Int),())).bind fun r51=>
   if r51.1.1 then
   some (((x47.2.1.2.1.1,(x47.2.1.2.1.2.1,(x47.2.1.2.1.2.2.1,(r50.1.1,(r49.1.1,(r48.1.1,(x47.2.1.2.1.2.2.2.2.2.2.1,(x47.2.1.2.1.2.2.2.2.2.2.2.1,((List.replicate ((40:Int)).toNat (Qby YI)),()))))))))),()),(r51.2.1,()))
   else
   some (((x47.2.1.2.1.1,(x47.2.1.2.1.2.1,(x47.2.1.2.1.2.2.1,(r50.1.1,(r49.1.1,(r48.1.1,(x47.2.1.2.1.2.2.2.2.2.2.1,(x47.2.1.2.1.2.2.2.2.2.2.2.1,(x47.2.1.2.1.2.2.2.2.2.2.2.2.1,()))))))))),()),(r51.2.1,()))
  | .inr z46_=>
   none
 | .inr z19_=>
  none
 else none
abbrev C_bx:Con:=⟨P_m,R_bx,F_bx,false⟩
abbrev G_bx:Env:=[(52,C_d),(82,C_c),(114,C_t),(115,C_s),(181,C_af),(183,C_bc)]
theorem g_bx:Qf Tryz.prog G_bx:=(Qa s_d (Qa s_c (Qa s_t (Qa s_s (Qa s_af (Qa s_bc Qc))))))
abbrev c_bx_10:Cut:=⟨i_bx_10,o_bx_10,fun x=>Qd l_bx_10 lots x⟩
theorem k_bx_10:Qt Tryz.prog 76 (.loop (nav Tryz.f134 [1,1,1,1,1,0,1,0,0])) c_bx_10:=
  Qg (L:=[]) hT g_bx (fun _ _=>by kernel_rfl) okP _
abbrev c_bx_3:Cut:=⟨i_bx_3,o_bx_3,fun x=>Qd l_bx_3 lots x⟩
theorem k_bx_3:Qt Tryz.prog 76 (.loop (nav Tryz.f134 [1,1,0,1,0,0])) c_bx_3:=
  Qg (L:=[]) hT g_bx (fun _ _=>by kernel_rfl) okP _
theorem r_bx (x):QF T G_bx [(10,c_bx_10),(3,c_bx_3)] Tryz.f134 C_bx.ps C_bx.rs x=C_bx.F x:=by kernel_rfl
theorem s_bx:Qb Tryz.prog 134 C_bx:=fnC (L:=[(10,c_bx_10),(3,c_bx_3)]) hT g_bx Tryz.f134 (okS okP (okS okP (okS (okS okP (okB (okU k_bx_3))) (okS okP (okS okP (okS (okS okP (okB (okU k_bx_10))) okP)))))) r_bx
abbrev R_by:List VK:=[.g [.dat Y30,.dat YI,.own 2 YI,.dat .bool,.dat .bool,.dat .bool,.dat YI,.dat Y30,.own 2 YI]]
def F_by (x:denP P_m):FO P_m R_by:=
 (F_bx (x.1,())).bind fun r1=>
 (F_c (r1.2.1,(20:Int),())).bind fun r2=>
 if (r2.1.1==(0:Int)) then
 if 0≤(0:Int)∧(0:Int)< ((r1.1.1.1.length:Nat):Int) then
 ((r1.1.1.1)[((0:Int)).toNat]?).bind fun y3=>
 let v4:=(r1.1.1.1.set ((0:Int)).toNat (1:Int))
 some (((v4,(r1.1.1.2.1,(r1.1.1.2.2.1,(r1.1.1.2.2.2.1,(r1.1.1.2.2.2.2.1,(r1.1.1.2.2.2.2.2.1,(r1.1.1.2.2.2.2.2.2.1,(r1.1.1.2.2.2.2.2.2.2.1,(r1.1.1.2.2.2.2.2.2.2.2.1,()))))))))),()),(r2.2.1,()))
 else none
 else
 if (r2.1.1==(1:Int)) then
 if 0≤(1:Int)∧(1:Int)≤((r1.1.1.1.length:Nat):Int)∧((r1.1.1.1.length:Nat):Int)≤((r1.1.1.1.length:Nat):Int) then
 some (((((r1.1.1.1.drop (0+((1:Int)).toNat)).take ((((r1.1.1.1.length:Nat):Int)).toNat-((1:Int)).toNat)),(r1.1.1.2.1,(r1.1.1.2.2.1,(r1.1.1.2.2.2.1,(r1.1.1.2.2.2.2.1,(r1.1.1.2.2.2.2.2.1,(r1.1.1.2.2.2.2.2.2.1,(r1.1.1.2.2.2.2.2.2.2.1,(r1.1.1.2.2.2.2.2.2.2.2.1,()))))))))),()),(r2.2.1,()))
 else none
 else
 if (r2.1.1==(2:Int)) then
 (F_c (r2.2.1,(11:Int),())).bind fun r5=>
 (F_d (r5.2.1,[(-1:Int),(4:Int),(9:Int),(4294967296:Int)],())).bind fun r6=>
 if 0≤r5.1.1∧r5.1.1< ((r1.1.1.2.2.1.length:Nat):Int) then
 ((r1.1.1.2.2.1)[(r5.1.1).toNat]?).bind fun y7=>
 let v8:=(r1.1.1.2.2.1.set (r5.1.1).toNat r6.1.1)
 some (((r1.1.1.1,(r1.1.1.2.1,(v8,(r1.1.1.2.2.2.1,(r1.1.1.2.2.2.2.1,(r1.1.1.2.2.2.2.2.1,(r1.1.1.2.2.2.2.2.2.1,(r1.1.1.2.2.2.2.2.2.2.1,(r1.1.1.2.2.2.2.2.2.2.2.1,()))))))))),()),(r6.2.1,()))
 else none
 else
 if (r2.1.1==(3:Int)) then
 (F_d (r2.2.1,[(-1:Int),(4294967296:Int)],())).bind fun r9=>
 some (((r1.1.1.1,(r9.1.1,(r1.1.1.2.2.1,(r1.1.1.2.2.2.1,(r1.1.1.2.2.2.2.1,(r1.1.1.2.2.2.2.2.1,(r1.1.1.2.2.2.2.2.2.1,(r1.1.1.2.2.2.2.2.2.2.1,(r1.1.1.2.2.2.2.2.2.2.2.1,()))))))))),()),(r9.2.1,()))
 else
 if (r2.1.1==(4:Int)) then
 some (((r1.1.1.1,(r1.1.1.2.1,(r1.1.1.2.2.1,(r1.1.1.2.2.2.1,(r1.1.1.2.2.2.2.1,(r1.1.1.2.2.2.2.2.1,(r1.1.1.2.2.2.2.2.2.1,((List.replicate ((41:Int)).toNat (Qby YI)),(r1.1.1.2.2.2.2.2.2.2.2.1,()))))))))),()),(r2.2.1,()))
 else
 if (r2.1.1==(5:Int)) then
 (F_d (r2.2.1,[(-1:Int),(1000000000:Int),(1000000001:Int)],())).bind fun r10=>
 some (((r1.1.1.1,(r1.1.1.2.1,(r1.1.1.2.2.1,(r1.1.1.2.2.2.1,(r1.1.1.2.2.2.2.1,(r1.1.1.2.2.2.2.2.1,(r10.1.1,(r1.1.1.2.2.2.2.2.2.2.1,(r1.1.1.2.2.2.2.2.2.2.2.1,()))))))))),()),(r10.2.1,()))
 else
 some ((r1.1.1,()),(r2.2.1,()))
abbrev C_by:Con:=⟨P_m,R_by,F_by,false⟩
abbrev G_by:Env:=[(52,C_d),(82,C_c),(134,C_bx)]
theorem g_by:Qf Tryz.prog G_by:=(Qa s_d (Qa s_c (Qa s_bx Qc)))
theorem s_by:Qb Tryz.prog 85 C_by:=fnC (L:=[]) hT g_by Tryz.f85 okP fun _=>by kernel_rfl
abbrev R_bz:List VK:=[.s (.dat Y32)]
abbrev i_bz_3:Shp:={ slots:=[(0,.s (.ptr 9000000 0)),(2,.s (.ptr 2 0)),(3,.s (.ptr 3 0)),(4,.s (.dat YI))],boxes:=[(2,[.own 30 Y30,.own 123 Y122,.own 53 Y38,.own 39 Y38,.own 2 YI,.own 46 Y45,.dat YI,.dat YI,.dat YI]),(3,[.dat Y24,.dat Y25,.dat Y26,.dat Y26,.own 2 YI,.own 46 Y45,.dat YI,.dat YI,.dat YI]),(9000000,[.dat Y22,.dat YI])],rows:=[] }
abbrev o_bz_3:List (Ex×Shp):=[(.exit 0,{ slots:=[(0,.s (.ptr 9000000 0)),(2,.s (.ptr 2 0)),(3,.s (.ptr 3 0))],boxes:=[(2,[.own 30 Y30,.own 123 Y122,.own 53 Y38,.own 39 Y38,.own 2 YI,.own 46 Y45,.dat YI,.dat YI,.dat YI]),(3,[.dat Y24,.dat Y25,.dat Y26,.dat Y26,.own 2 YI,.own 46 Y45,.dat YI,.dat YI,.dat YI]),(9000000,[.dat Y22,.dat YI])],rows:=[] })]
def l_bz_3 (rec:i_bz_3.den→Option (denO o_bz_3)) (u:i_bz_3.den):Option (denO o_bz_3):=
 if (ltI (0:Int) u.1.2.2.2.1) then
 (F_bt (u.2.1.2.1,())).bind fun r5=>
 let v6:=(IntKind.i64.wrap (u.1.2.2.2.1-(1:Int)))
 rec (((),((),((),(v6,())))),((u.2.1.1,(r5.2.1,(u.2.1.2.2.1,()))),()))
 else
 some (.inl (((),((),((),()))),((u.2.1.1,(u.2.1.2.1,(u.2.1.2.2.1,()))),())))
def L_bz_3 (x:i_bz_3.den):Option (denO o_bz_3):=Qd l_bz_3 lots x
def F_bz (x:denP P_m):FO P_m R_bz:=
 (F_ah (x.1,())).bind fun r1=>
 (F_c (r1.2.1,(60:Int),())).bind fun r2=>
 (L_bz_3 (((),((),((),(r2.1.1,())))),(((([]:List (den Y30)),(([]:List (den Y122)),(([]:List (den Y38)),(([]:List (den Y38)),(([]:List (den YI)),(([]:List (den Y45)),((0:Int),((0:Int),((0:Int),()))))))))),(r1.1.1,(r2.2.1,()))),()))).bind fun z7=>
 match z7 with
 | .inl x8=>
  (F_c (x8.2.1.2.2.1,(24:Int),())).bind fun r9=>
  if (r9.1.1==(0:Int)) then
  (F_bu (r9.2.1,())).bind fun r10=>
  some (((r10.1.1,(x8.2.1.2.1.2.2.2.2.1,(x8.2.1.2.1.2.2.2.2.2.1,(x8.2.1.2.1.2.2.2.2.2.2.1,(x8.2.1.2.1.2.2.2.2.2.2.2.1,(x8.2.1.2.1.2.2.2.2.2.2.2.2.1,())))))),()),(r10.2.1,()))
  else
  if (r9.1.1==(1:Int)) then
  (F_bw (r9.2.1,())).bind fun r11=>
  some ((((x8.2.1.2.1.1,(x8.2.1.2.1.2.1,(x8.2.1.2.1.2.2.1,(x8.2.1.2.1.2.2.2.1,())))),(r11.1.1,(x8.2.1.2.1.2.2.2.2.2.1,(x8.2.1.2.1.2.2.2.2.2.2.1,(x8.2.1.2.1.2.2.2.2.2.2.2.1,(x8.2.1.2.1.2.2.2.2.2.2.2.2.1,())))))),()),(r11.2.1,()))
  else
  if (r9.1.1==(2:Int)) then
  (F_by (r9.2.1,())).bind fun r12=>
  if 0≤(0:Int)∧(0:Int)< ((x8.2.1.2.1.2.2.2.2.2.1.length:Nat):Int) then
  ((x8.2.1.2.1.2.2.2.2.2.1)[((0:Int)).toNat]?).bind fun y13=>
  let v14:=(x8.2.1.2.1.2.2.2.2.2.1.set ((0:Int)).toNat r12.1.1)
  some ((((x8.2.1.2.1.1,(x8.2.1.2.1.2.1,(x8.2.1.2.1.2.2.1,(x8.2.1.2.1.2.2.2.1,())))),(x8.2.1.2.1.2.2.2.2.1,(v14,(x8.2.1.2.1.2.2.2.2.2.2.1,(x8.2.1.2.1.2.2.2.2.2.2.2.1,(x8.2.1.2.1.2.2.2.2.2.2.2.2.1,())))))),()),(r12.2.1,()))
  else none
  else
  if (r9.1.1==(3:Int)) then
  (F_c (r9.2.1,(4:Int),())).bind fun r15=>
  some ((((x8.2.1.2.1.1,(x8.2.1.2.1.2.1,(x8.2.1.2.1.2.2.1,(x8.2.1.2.1.2.2.2.1,())))),(x8.2.1.2.1.2.2.2.2.1,(x8.2.1.2.1.2.2.2.2.2.1,(r15.1.1,(x8.2.1.2.1.2.2.2.2.2.2.2.1,(x8.2.1.2.1.2.2.2.2.2.2.2.2.1,())))))),()),(r15.2.1,()))
  else
  if (r9.1.1==(4:Int)) then
  (F_c (r9.2.1,(9:Int),())).bind fun r16=>
  some ((((x8.2.1.2.1.1,(x8.2.1.2.1.2.1,(x8.2.1.2.1.2.2.1,(x8.2.1.2.1.2.2.2.1,())))),(x8.2.1.2.1.2.2.2.2.1,(x8.2.1.2.1.2.2.2.2.2.1,(x8.2.1.2.1.2.2.2.2.2.2.1,(r16.1.1,(x8.2.1.2.1.2.2.2.2.2.2.2.2.1,())))))),()),(r16.2.1,()))
  else
  if (r9.1.1==(5:Int)) then
  let v17:=(IntKind.i64.wrap (x8.2.1.2.1.2.2.2.2.2.2.2.2.1+(1:Int)))
  (F_d (r9.2.1,[(-1:Int),v17,(1000001:Int)],())).bind fun r18=>
  some ((((x8.2.1.2.1.1,(x8.2.1.2.1.2.1,(x8.2.1.2.1.2.2.1,(x8.2.1.2.1.2.2.2.1,())))),(x8.2.1.2.1.2.2.2.2.1,(x8.2.1.2.1.2.2.2.2.2.1,(x8.2.1.2.1.2.2.2.2.2.2.1,(x8.2.1.2.1.2.2.2.2.2.2.2.1,(r18.1.1,())))))),()),(r18.2.1,()))
  else
  if (r9.1.1==(6:Int)) then
  if 0≤(1:Int)∧(1:Int)≤((x8.2.1.2.1.2.2.2.2.2.1.length:Nat):Int)∧((x8.2.1.2.1.2.2.2.2.2.1.length:Nat):Int)≤((x8.2.1.2.1.2.2.2.2.2.1.length:Nat):Int) then
  some ((((x8.2.1.2.1.1,(x8.2.1.2.1.2.1,(x8.2.1.2.1.2.2.1,(x8.2.1.2.1.2.2.2.1,())))),(x8.2.1.2.1.2.2.2.2.1,(((x8.2.1.2.1.2.2.2.2.2.1.drop (0+((1:Int)).toNat)).take ((((x8.2.1.2.1.2.2.2.2.2.1.length:Nat):Int)).toNat-((1:Int)).toNat)),(x8.2.1.2.1.2.2.2.2.2.2.1,(x8.2.1.2.1.2.2.2.2.2.2.2.1,(x8.2.1.2.1.2.2.2.2.2.2.2.2.1,())))))),()),(r9.2.1,()))
  else none
  else
  some ((((x8.2.1.2.1.1,(x8.2.1.2.1.2.1,(x8.2.1.2.1.2.2.1,(x8.2.1.2.1.2.2.2.1,())))),(x8.2.1.2.1.2.2.2.2.1,(x8.2.1.2.1.2.2.2.2.2.1,(x8.2.1.2.1.2.2.2.2.2.2.1,(x8.2.1.2.1.2.2.2.2.2.2.2.1,(x8.2.1.2.1.2.2.2.2.2.2.2.2.1,())))))),()),(r9.2.1,()))
 | .inr z7_=>
  none
abbrev C_bz:Con:=⟨P_m,R_bz,F_bz,false⟩
abbrev G_bz:Env:=[(36,C_bt),(52,C_d),(81,C_ah),(82,C_c),(83,C_bu),(84,C_bw),(85,C_by)]
theorem g_bz:Qf Tryz.prog G_bz:=(Qa s_bt (Qa s_d (Qa s_ah (Qa s_c (Qa s_bu (Qa s_bw (Qa s_by Qc)))))))
abbrev c_bz_3:Cut:=⟨i_bz_3,o_bz_3,fun x=>Qd l_bz_3 lots x⟩
theorem k_bz_3:Qt Tryz.prog 59 (.loop (nav Tryz.f30 [1,1,0,1,0,0])) c_bz_3:=
  Qg (L:=[]) hT g_bz (fun _ _=>by kernel_rfl) okP _
theorem r_bz (x):QF T G_bz [(3,c_bz_3)] Tryz.f30 C_bz.ps C_bz.rs x=C_bz.F x:=by kernel_rfl
theorem s_bz:Qb Tryz.prog 30 C_bz:=fnC (L:=[(3,c_bz_3)]) hT g_bz Tryz.f30 (okS okP (okS okP (okS (okS okP (okB (okU k_bz_3))) okP))) r_bz
def F_ca (x:denP P_m):FO P_m R_c:=
 (F_t (x.1,())).bind fun r1=>
 (F_t (r1.2.1,())).bind fun r2=>
 (F_t (r2.2.1,())).bind fun r3=>
 (F_d (r3.2.1,[r1.1.1,r2.1.1,r3.1.1,(-1:Int),(-9223372036854775808:Int),(9223372036854775807:Int),(4294967296:Int),(-5:Int)],())).bind fun r4=>
 some ((r4.1.1,()),(r4.2.1,()))
abbrev C_ca:Con:=⟨P_m,R_c,F_ca,false⟩
abbrev G_ca:Env:=[(52,C_d),(114,C_t)]
theorem g_ca:Qf Tryz.prog G_ca:=(Qa s_d (Qa s_t Qc))
theorem s_ca:Qb Tryz.prog 116 C_ca:=fnC (L:=[]) hT g_ca Tryz.f116 okP fun _=>by kernel_rfl
abbrev i_cb_4:Shp:={ slots:=[(3,.s (.ptr 1032500 0)),(4,.s (.own 2 YI)),(5,.s (.dat YI))],boxes:=[(1032500,[.dat Y22,.dat YI])],rows:=[] }
abbrev o_cb_4:List (Ex×Shp):=[(.exit 0,{ slots:=[(3,.s (.ptr 1032500 0)),(4,.s (.own 2 YI))],boxes:=[(1032500,[.dat Y22,.dat YI])],rows:=[] })]
def l_cb_4 (rec:i_cb_4.den→Option (denO o_cb_4)) (u:i_cb_4.den):Option (denO o_cb_4):=
 if (ltI (0:Int) u.1.2.2.1) then
 (F_t (u.2.1.1,())).bind fun r6=>
 if (u.1.2.1.length+[r6.1.1].length)*8≤140737488355328 then
 let v7:=(u.1.2.1++[r6.1.1])
 let v8:=(IntKind.i64.wrap (u.1.2.2.1-(1:Int)))
 rec (((),(v7,(v8,()))),((r6.2.1,()),()))
 else none
 else
 some (.inl (((),(u.1.2.1,())),((u.2.1.1,()),())))
def L_cb_4 (x:i_cb_4.den):Option (denO o_cb_4):=Qd l_cb_4 lots x
def F_cb (x:denP P_a):FO P_a R_u:=
 (F_b (x.1,())).bind fun r1=>
 (F_c ((r1.1.1.1,(r1.1.1.2.1,())),(5:Int),())).bind fun r2=>
 (F_c (r2.2.1,(5:Int),())).bind fun r3=>
 (F_d (r3.2.1,[r2.1.1,r3.1.1,(40:Int),(41:Int)],())).bind fun r4=>
 (L_cb_4 (((),(([]:List (den YI)),(r4.1.1,()))),((r4.2.1,()),()))).bind fun z9=>
 match z9 with
 | .inl x10=>
  let v11:=((x10.1.2.1.length:Nat):Int)
  if (ltI (0:Int) v11)=true then
  (F_s (x10.2.1.1,(10:Int),())).bind fun r12=>
  if r12.1.1 then
  (F_ca (r12.2.1,())).bind fun r13=>
  if 0≤(0:Int)∧(0:Int)< ((x10.1.2.1.length:Nat):Int) then
  ((x10.1.2.1)[((0:Int)).toNat]?).bind fun y14=>
  let v15:=(x10.1.2.1.set ((0:Int)).toNat r13.1.1)
  some ((v15,()),())
  else none
  else
  some ((x10.1.2.1,()),())
  else
  some ((x10.1.2.1,()),())
 | .inr z9_=>
  none
abbrev C_cb:Con:=⟨P_a,R_u,F_cb,false⟩
abbrev G_cb:Env:=[(31,C_b),(52,C_d),(82,C_c),(114,C_t),(115,C_s),(116,C_ca)]
theorem g_cb:Qf Tryz.prog G_cb:=(Qa s_b (Qa s_d (Qa s_c (Qa s_t (Qa s_s (Qa s_ca Qc))))))
abbrev c_cb_4:Cut:=⟨i_cb_4,o_cb_4,fun x=>Qd l_cb_4 lots x⟩
theorem k_cb_4:Qt Tryz.prog 37 (.loop (nav Tryz.f53 [1,1,1,0,1,0,0])) c_cb_4:=
  Qg (L:=[]) hT g_cb (fun _ _=>by kernel_rfl) okP _
theorem r_cb (x):QF T G_cb [(4,c_cb_4)] Tryz.f53 C_cb.ps C_cb.rs x=C_cb.F x:=by kernel_rfl
theorem s_cb:Qb Tryz.prog 53 C_cb:=fnC (L:=[(4,c_cb_4)]) hT g_cb Tryz.f53 (okS okP (okS okP (okS okP (okS (okS okP (okB (okU k_cb_4))) okP)))) r_cb
abbrev R_cc:List VK:=[.s (.dat Y32),.s (.dat YI),.s (.own 2 YI)]
def F_cc (x:denP P_a):FO P_a R_cc:=
 (F_b (x.1,())).bind fun r1=>
 (F_bz ((r1.1.1.1,(r1.1.1.2.1,())),())).bind fun r2=>
 (F_d (r2.2.1,[(0:Int),(1:Int),(0:Int),(2:Int),(3:Int),(-1:Int)],())).bind fun r3=>
 (F_cb (x.1,())).bind fun r4=>
 some ((r2.1.1,r3.1.1,r4.1.1,()),())
abbrev C_cc:Con:=⟨P_a,R_cc,F_cc,false⟩
abbrev G_cc:Env:=[(30,C_bz),(31,C_b),(52,C_d),(53,C_cb)]
theorem g_cc:Qf Tryz.prog G_cc:=(Qa s_bz (Qa s_b (Qa s_d (Qa s_cb Qc))))
theorem s_cc:Qb Tryz.prog 16 C_cc:=fnC (L:=[]) hT g_cc Tryz.f16 okP fun _=>by kernel_rfl
def F_cd (x:denP P_e):FO P_e R_a:=
 if (leI x.2.1 x.1)=true then
 some (((leI x.1 x.2.2.1),()),())
 else
 some ((false,()),())
abbrev C_cd:Con:=⟨P_e,R_a,F_cd,false⟩
theorem s_cd:Qb Tryz.prog 50 C_cd:=fnC (L:=[]) hT g_a Tryz.f50 okP fun _=>by kernel_rfl
abbrev i_ce_10:Shp:={ slots:=[(3,.s (.mp)),(4,.s (.dat .bool)),(20,.s (.dat Y24)),(21,.s (.dat YI)),(22,.s (.dat YI)),(30,.s (.dat Y30)),(31,.s (.dat YI)),(32,.s (.dat YI))],boxes:=[],rows:=[] }
abbrev o_ce_10:List (Ex×Shp):=[(.exit 2,{ slots:=[(3,.s (.mp)),(4,.s (.dat .bool)),(20,.s (.dat Y24)),(21,.s (.dat YI)),(22,.s (.dat YI))],boxes:=[],rows:=[] }),(.ret,{ slots:=[(2,.s (.dat YI))],boxes:=[],rows:=[] })]
def l_ce_10 (rec:i_ce_10.den→Option (denO o_ce_10)) (u:i_ce_10.den):Option (denO o_ce_10):=
 if (ltI u.1.2.2.2.2.2.2.2.1 u.1.2.2.2.2.2.2.1) then
 if 0≤u.1.2.2.2.2.2.2.2.1 then
 ((u.1.2.2.2.2.2.1)[(u.1.2.2.2.2.2.2.2.1).toNat]?).bind fun y17=>
 (F_cd (y17,(0:Int),(23:Int),())).bind fun r18=>
 if (!r18.1.1) then
 some (.inr (.inl (((3:Int),()),((),()))))
 else
 if u.1.2.1=false then
 let v19:=(IntKind.i64.wrap (u.1.2.2.2.2.2.2.2.1+(1:Int)))
 rec (((setM u.1.1 y17 true),((getM u.1.1 y17),(u.1.2.2.1,(u.1.2.2.2.1,(u.1.2.2.2.2.1,(u.1.2.2.2.2.2.1,(u.1.2.2.2.2.2.2.1,(v19,())))))))),((),()))
 else
 let v20:=(IntKind.i64.wrap (u.1.2.2.2.2.2.2.2.1+(1:Int)))
 rec (((setM u.1.1 y17 true),(true,(u.1.2.2.1,(u.1.2.2.2.1,(u.1.2.2.2.2.1,(u.1.2.2.2.2.2.1,(u.1.2.2.2.2.2.2.1,(v20,())))))))),((),()))
 else none
 else
 some (.inl ((u.1.1,(u.1.2.1,(u.1.2.2.1,(u.1.2.2.2.1,(u.1.2.2.2.2.1,()))))),((),())))
def L_ce_10 (x:i_ce_10.den):Option (denO o_ce_10):=Qd l_ce_10 lots x
abbrev i_ce_5:Shp:={ slots:=[(3,.s (.mp)),(4,.s (.dat .bool)),(20,.s (.dat Y24)),(21,.s (.dat YI)),(22,.s (.dat YI))],boxes:=[],rows:=[] }
abbrev o_ce_5:List (Ex×Shp):=[(.exit 0,{ slots:=[(4,.s (.dat .bool))],boxes:=[],rows:=[] }),(.ret,{ slots:=[(2,.s (.dat YI))],boxes:=[],rows:=[] })]
def l_ce_5 (rec:i_ce_5.den→Option (denO o_ce_5)) (u:i_ce_5.den):Option (denO o_ce_5):=
 if (ltI u.1.2.2.2.2.1 u.1.2.2.2.1) then
 if 0≤u.1.2.2.2.2.1 then
 ((u.1.2.2.1)[(u.1.2.2.2.2.1).toNat]?).bind fun y11=>
 let v12:=((y11.length:Nat):Int)
 (F_cd (v12,(1:Int),(5:Int),())).bind fun r13=>
 if (!r13.1.1) then
 some (.inr (.inl (((2:Int),()),((),()))))
 else
 let v14:=((y11.length:Nat):Int)
 (L_ce_10 ((u.1.1,(u.1.2.1,(u.1.2.2.1,(u.1.2.2.2.1,(u.1.2.2.2.2.1,(y11,(v14,((0:Int),())))))))),((),()))).bind fun z21=>
 match z21 with
 | .inl x22=>
  let v23:=(IntKind.i64.wrap (x22.1.2.2.2.2.1+(1:Int)))
  rec ((x22.1.1,(x22.1.2.1,(x22.1.2.2.1,(x22.1.2.2.2.1,(v23,()))))),((),()))
 | .inr z21_=>
  match z21_ with
  | .inl x24=>
   some (.inr (.inl ((x24.1.1,()),((),()))))
  | .inr z21__=>
   none
 else none
 else
 some (.inl ((u.1.2.1,()),((),())))
def L_ce_5 (x:i_ce_5.den):Option (denO o_ce_5):=Qd l_ce_5 lots x
def F_ce (x:denP P_g):FO P_g R_c:=
 let v1:=((x.1.1.length:Nat):Int)
 (F_cd (v1,(1:Int),(3:Int),())).bind fun r2=>
 if (!r2.1.1) then
 some (((2:Int),()),())
 else
 let v3:=((x.1.1.length:Nat):Int)
 (L_ce_5 ((([]:List (Int×Bool)),(false,(x.1.1,(v3,((0:Int),()))))),((),()))).bind fun z25=>
 match z25 with
 | .inl x26=>
  if x26.1.1 then
  some (((6:Int),()),())
  else
  some (((0:Int),()),())
 | .inr z25_=>
  match z25_ with
  | .inl x27=>
   some ((x27.1.1,()),())
  | .inr z25__=>
   none
abbrev C_ce:Con:=⟨P_g,R_c,F_ce,false⟩
abbrev G_ce:Env:=[(50,C_cd)]
theorem g_ce:Qf Tryz.prog G_ce:=(Qa s_cd Qc)
abbrev c_ce_10:Cut:=⟨i_ce_10,o_ce_10,fun x=>Qd l_ce_10 lots x⟩
theorem k_ce_10:Qt Tryz.prog 50 (.loop (nav Tryz.f109 [1,1,1,0,1,0,0,1,1,0,0,1,1,1,0,0])) c_ce_10:=
  Qg (L:=[]) hT g_ce (fun _ _=>by kernel_rfl) okP _
abbrev c_ce_5:Cut:=⟨i_ce_5,o_ce_5,fun x=>Qd l_ce_5 lots x⟩
theorem t_ce_5 (rec x):run T G_ce [(10,c_ce_10)] (nav Tryz.f109 [1,1,1,0,1,0,0]) (mk 50 i_ce_5 x) (QfC i_ce_5 o_ce_5 rec)=l_ce_5 rec x:=by kernel_rfl
theorem k_ce_5:Qt Tryz.prog 50 (.loop (nav Tryz.f109 [1,1,1,0,1,0,0])) c_ce_5:=
  Qg (L:=[(10,c_ce_10)]) hT g_ce t_ce_5 (okS okP (okS okP (okS (okB (okS okP (okS okP (okS okP (okB (okU k_ce_10)))))) okP))) _
theorem r_ce (x):QF T G_ce [(10,c_ce_10),(5,c_ce_5)] Tryz.f109 C_ce.ps C_ce.rs x=C_ce.F x:=by kernel_rfl
theorem s_ce:Qb Tryz.prog 109 C_ce:=fnC (L:=[(10,c_ce_10),(5,c_ce_5)]) hT g_ce Tryz.f109 (okS okP (okS okP (okS okP (okS (okS okP (okB (okU k_ce_5))) okP)))) r_ce
def F_cf (x:denP P_h):FO P_h R_a:=
 let v1:=((x.1.1.length:Nat):Int)
 let v2:=(IntKind.i64.wrap (v1-(1:Int)))
 (F_cd (x.2.1,(0:Int),v2,())).bind fun r3=>
 some ((r3.1.1,()),())
abbrev C_cf:Con:=⟨P_h,R_a,F_cf,false⟩
theorem g_cf:Qf Tryz.prog G_ce:=(Qa s_cd Qc)
theorem s_cf:Qb Tryz.prog 44 C_cf:=fnC (L:=[]) hT g_cf Tryz.f44 okP fun _=>by kernel_rfl
def F_cg (x:denP P_i):FO P_i R_c:=
 (F_cf (x.1,x.2.1,())).bind fun r1=>
 if (!r1.1.1)=false then
 (F_cf (x.1,x.2.2.1,())).bind fun r2=>
 if (!r2.1.1) then
 some (((4:Int),()),())
 else
 if (x.2.1==x.2.2.1) then
 some (((1:Int),()),())
 else
 some (((0:Int),()),())
 else
 some (((4:Int),()),())
abbrev C_cg:Con:=⟨P_i,R_c,F_cg,false⟩
abbrev G_cg:Env:=[(44,C_cf)]
theorem g_cg:Qf Tryz.prog G_cg:=(Qa s_cf Qc)
theorem s_cg:Qb Tryz.prog 167 C_cg:=fnC (L:=[]) hT g_cg Tryz.f167 okP fun _=>by kernel_rfl
abbrev i_ch_2:Shp:={ slots:=[(0,.s (.dat Y30)),(1,.s (.dat YI)),(7,.s (.dat YI)),(8,.s (.dat YI))],boxes:=[],rows:=[] }
def l_ch_2 (rec:i_ch_2.den→Option (denO o_j_2)) (u:i_ch_2.den):Option (denO o_j_2):=
 if (ltI u.1.2.2.2.1 u.1.2.2.1) then
 if 0≤u.1.2.2.2.1 then
 ((u.1.1)[(u.1.2.2.2.1).toNat]?).bind fun y3=>
 if (u.1.2.1==y3) then
 some (.inr (.inl ((u.1.2.2.2.1,()),((),()))))
 else
 let v4:=(IntKind.i64.wrap (u.1.2.2.2.1+(1:Int)))
 rec ((u.1.1,(u.1.2.1,(u.1.2.2.1,(v4,())))),((),()))
 else none
 else
 some (.inl ((),((),())))
def L_ch_2 (x:i_ch_2.den):Option (denO o_j_2):=Qd l_ch_2 lots x
def F_ch (x:denP P_f):FO P_f R_c:=
 let v1:=((x.1.length:Nat):Int)
 (L_ch_2 ((x.1,(x.2.1,(v1,((0:Int),())))),((),()))).bind fun z5=>
 match z5 with
 | .inl x6=>
  some (((-1:Int),()),())
 | .inr z5_=>
  match z5_ with
  | .inl x7=>
   some ((x7.1.1,()),())
  | .inr z5__=>
   none
abbrev C_ch:Con:=⟨P_f,R_c,F_ch,false⟩
abbrev c_ch_2:Cut:=⟨i_ch_2,o_j_2,fun x=>Qd l_ch_2 lots x⟩
theorem k_ch_2:Qt Tryz.prog 19 (.loop (nav Tryz.f121 [1,0,1,0,0])) c_ch_2:=
  Qg (L:=[]) hT g_a (fun _ _=>by kernel_rfl) okP _
theorem r_ch (x):QF T G_a [(2,c_ch_2)] Tryz.f121 C_ch.ps C_ch.rs x=C_ch.F x:=by kernel_rfl
theorem s_ch:Qb Tryz.prog 121 C_ch:=fnC (L:=[(2,c_ch_2)]) hT g_a Tryz.f121 (okS okP (okS (okS okP (okB (okU k_ch_2))) okP)) r_ch
def F_ci (x:denP P_f):FO P_f R_a:=
 (F_ch (x.1,x.2.1,())).bind fun r1=>
 some (((leI (0:Int) r1.1.1),()),())
abbrev C_ci:Con:=⟨P_f,R_a,F_ci,false⟩
abbrev G_ci:Env:=[(121,C_ch)]
theorem g_ci:Qf Tryz.prog G_ci:=(Qa s_ch Qc)
theorem s_ci:Qb Tryz.prog 61 C_ci:=fnC (L:=[]) hT g_ci Tryz.f61 okP fun _=>by kernel_rfl
abbrev P_cj_1:List PK:=[.val Y30,.ptr YI]
def F_cj_1 (x:denP P_cj_1):FO P_cj_1 R_a:=
 (F_ci (x.1,x.2.1,())).bind fun r1=>
 some ((r1.1.1,()),())
abbrev C_cj_1:Con:=⟨P_cj_1,R_a,F_cj_1,false⟩
abbrev G_cj_1:Env:=[(61,C_ci)]
theorem g_cj_1:Qf Tryz.prog G_cj_1:=(Qa s_ci Qc)
theorem s_cj_1:Qb Tryz.prog 217 C_cj_1:=fnC (L:=[]) hT g_cj_1 Tryz.f217 okP fun _=>by kernel_rfl
abbrev P_ck_1:List PK:=[.val Y24,.fn 217 [YI]]
abbrev i_cl_2:Shp:={ slots:=[(0,.s (.dat Y24)),(1,.s (.fn 217 [YI])),(7,.s (.dat YI)),(8,.s (.dat YI))],boxes:=[],rows:=[] }
def l_cl_2 (rec:i_cl_2.den→Option (denO o_j_2)) (u:i_cl_2.den):Option (denO o_j_2):=
 if (ltI u.1.2.2.2.1 u.1.2.2.1) then
 if 0≤u.1.2.2.2.1 then
 ((u.1.1)[(u.1.2.2.2.1).toNat]?).bind fun y4=>
 (F_cj_1 (y4,u.1.2.1.1,())).bind fun r5=>
 if r5.1.1 then
 some (.inr (.inl ((u.1.2.2.2.1,()),((),()))))
 else
 let v6:=(IntKind.i64.wrap (u.1.2.2.2.1+(1:Int)))
 rec ((u.1.1,((u.1.2.1.1,()),(u.1.2.2.1,(v6,())))),((),()))
 else none
 else
 some (.inl ((),((),())))
def L_cl_2 (x:i_cl_2.den):Option (denO o_j_2):=Qd l_cl_2 lots x
def F_ck_1 (x:denP P_ck_1):FO P_ck_1 R_c:=
 let v1:=((x.1.length:Nat):Int)
 (L_cl_2 ((x.1,((x.2.1.1,()),(v1,((0:Int),())))),((),()))).bind fun z7=>
 match z7 with
 | .inl x8=>
  some (((-1:Int),()),())
 | .inr z7_=>
  match z7_ with
  | .inl x9=>
   some ((x9.1.1,()),())
  | .inr z7__=>
   none
abbrev C_ck_1:Con:=⟨P_ck_1,R_c,F_ck_1,false⟩
abbrev G_ck_1:Env:=[(217,C_cj_1)]
theorem g_ck_1:Qf Tryz.prog G_ck_1:=(Qa s_cj_1 Qc)
abbrev c_cl_2:Cut:=⟨i_cl_2,o_j_2,fun x=>Qd l_cl_2 lots x⟩
theorem k_cl_2:Qt Tryz.prog 19 (.loop (nav Tryz.f216 [1,0,1,0,0])) c_cl_2:=
  Qg (L:=[]) hT g_ck_1 (fun _ _=>by kernel_rfl) okP _
theorem r_ck_1 (x):QF T G_ck_1 [(2,c_cl_2)] Tryz.f216 C_ck_1.ps C_ck_1.rs x=C_ck_1.F x:=by kernel_rfl
theorem s_ck_1:Qb Tryz.prog 216 C_ck_1:=fnC (L:=[(2,c_cl_2)]) hT g_ck_1 Tryz.f216 (okS okP (okS (okS okP (okB (okU k_cl_2))) okP)) r_ck_1
def F_cj (x:denP P_h):FO P_h R_c:=
 (F_ck_1 (x.1.1,(x.2.1,()),())).bind fun r1=>
 some ((r1.1.1,()),())
abbrev C_cj:Con:=⟨P_h,R_c,F_cj,false⟩
abbrev G_cj:Env:=[(216,C_ck_1)]
theorem g_cj:Qf Tryz.prog G_cj:=(Qa s_ck_1 Qc)
theorem s_cj:Qb Tryz.prog 168 C_cj:=fnC (L:=[]) hT g_cj Tryz.f168 okP fun _=>by kernel_rfl
def F_cm (x:denP P_k):FO P_k R_a:=
 if (x.1.1==x.2.1)=true then
 if (x.1.2.2.2.1==x.2.2.1)=false then
 if (x.1.2.1==x.2.1)=true then
 some (((x.1.2.2.2.2.1==x.2.2.1),()),())
 else
 some ((false,()),())
 else
 some ((true,()),())
 else
 if (x.1.2.1==x.2.1)=true then
 some (((x.1.2.2.2.2.1==x.2.2.1),()),())
 else
 some ((false,()),())
abbrev C_cm:Con:=⟨P_k,R_a,F_cm,false⟩
theorem s_cm:Qb Tryz.prog 171 C_cm:=fnC (L:=[]) hT g_a Tryz.f171 okP fun _=>by kernel_rfl
abbrev P_cn_1:List PK:=[.val Y122,.ptr Y122]
def F_cn_1 (x:denP P_cn_1):FO P_cn_1 R_a:=
 if (x.1.2.2.1==x.2.1.2.2.1)=false then
 (F_cm (x.1,x.2.1.1,x.2.1.2.2.2.1,())).bind fun r1=>
 if r1.1.1=false then
 (F_cm (x.1,x.2.1.2.1,x.2.1.2.2.2.2.1,())).bind fun r2=>
 some ((r2.1.1,()),())
 else
 some ((true,()),())
 else
 some ((true,()),())
abbrev C_cn_1:Con:=⟨P_cn_1,R_a,F_cn_1,false⟩
abbrev G_cn_1:Env:=[(171,C_cm)]
theorem g_cn_1:Qf Tryz.prog G_cn_1:=(Qa s_cm Qc)
theorem s_cn_1:Qb Tryz.prog 170 C_cn_1:=fnC (L:=[]) hT g_cn_1 Tryz.f170 okP fun _=>by kernel_rfl
abbrev P_co_1:List PK:=[.val Y25,.fn 170 [Y122]]
abbrev i_cp_2:Shp:={ slots:=[(0,.s (.dat Y25)),(1,.s (.fn 170 [Y122])),(7,.s (.dat YI)),(8,.s (.dat YI))],boxes:=[],rows:=[] }
def l_cp_2 (rec:i_cp_2.den→Option (denO o_j_2)) (u:i_cp_2.den):Option (denO o_j_2):=
 if (ltI u.1.2.2.2.1 u.1.2.2.1) then
 if 0≤u.1.2.2.2.1 then
 ((u.1.1)[(u.1.2.2.2.1).toNat]?).bind fun y4=>
 (F_cn_1 (y4,u.1.2.1.1,())).bind fun r5=>
 if r5.1.1 then
 some (.inr (.inl ((u.1.2.2.2.1,()),((),()))))
 else
 let v6:=(IntKind.i64.wrap (u.1.2.2.2.1+(1:Int)))
 rec ((u.1.1,((u.1.2.1.1,()),(u.1.2.2.1,(v6,())))),((),()))
 else none
 else
 some (.inl ((),((),())))
def L_cp_2 (x:i_cp_2.den):Option (denO o_j_2):=Qd l_cp_2 lots x
def F_co_1 (x:denP P_co_1):FO P_co_1 R_c:=
 let v1:=((x.1.length:Nat):Int)
 (L_cp_2 ((x.1,((x.2.1.1,()),(v1,((0:Int),())))),((),()))).bind fun z7=>
 match z7 with
 | .inl x8=>
  some (((-1:Int),()),())
 | .inr z7_=>
  match z7_ with
  | .inl x9=>
   some ((x9.1.1,()),())
  | .inr z7__=>
   none
abbrev C_co_1:Con:=⟨P_co_1,R_c,F_co_1,false⟩
abbrev G_co_1:Env:=[(170,C_cn_1)]
theorem g_co_1:Qf Tryz.prog G_co_1:=(Qa s_cn_1 Qc)
abbrev c_cp_2:Cut:=⟨i_cp_2,o_j_2,fun x=>Qd l_cp_2 lots x⟩
theorem k_cp_2:Qt Tryz.prog 19 (.loop (nav Tryz.f218 [1,0,1,0,0])) c_cp_2:=
  Qg (L:=[]) hT g_co_1 (fun _ _=>by kernel_rfl) okP _
theorem r_co_1 (x):QF T G_co_1 [(2,c_cp_2)] Tryz.f218 C_co_1.ps C_co_1.rs x=C_co_1.F x:=by kernel_rfl
theorem s_co_1:Qb Tryz.prog 218 C_co_1:=fnC (L:=[(2,c_cp_2)]) hT g_co_1 Tryz.f218 (okS okP (okS (okS okP (okB (okU k_cp_2))) okP)) r_co_1
def F_cq_1 (x:denP P_co_1):FO P_co_1 R_a:=
 (F_co_1 (x.1,(x.2.1.1,()),())).bind fun r1=>
 some (((leI (0:Int) r1.1.1),()),())
abbrev C_cq_1:Con:=⟨P_co_1,R_a,F_cq_1,false⟩
abbrev G_cq_1:Env:=[(218,C_co_1)]
theorem g_cq_1:Qf Tryz.prog G_cq_1:=(Qa s_co_1 Qc)
theorem s_cq_1:Qb Tryz.prog 169 C_cq_1:=fnC (L:=[]) hT g_cq_1 Tryz.f169 okP fun _=>by kernel_rfl
abbrev P_cn:List PK:=[.ptr Y28,.val Y122,.val Y25]
def F_cn (x:denP P_cn):FO P_cn R_c:=
 (F_cg (x.1,x.2.1.1,x.2.1.2.1,())).bind fun r1=>
 if (r1.1.1 !=(0:Int)) then
 some ((r1.1.1,()),())
 else
 (F_cd (x.2.1.2.2.1,(0:Int),(23:Int),())).bind fun r2=>
 if (!r2.1.1)=false then
 (F_cd (x.2.1.2.2.2.1,(5:Int),(6:Int),())).bind fun r3=>
 if (!r3.1.1)=false then
 (F_cd (x.2.1.2.2.2.2.1,(5:Int),(6:Int),())).bind fun r4=>
 if (!r4.1.1) then
 some (((3:Int),()),())
 else
 (F_cj (x.1,x.2.1.2.2.1,())).bind fun r5=>
 if (leI (0:Int) r5.1.1)=false then
 (F_cq_1 (x.2.2.1,(x.2.1,()),())).bind fun r6=>
 if r6.1.1 then
 some (((6:Int),()),())
 else
 some (((0:Int),()),())
 else
 some (((6:Int),()),())
 else
 some (((3:Int),()),())
 else
 some (((3:Int),()),())
abbrev C_cn:Con:=⟨P_cn,R_c,F_cn,false⟩
abbrev G_cn:Env:=[(50,C_cd),(167,C_cg),(168,C_cj),(169,C_cq_1)]
theorem g_cn:Qf Tryz.prog G_cn:=(Qa s_cd (Qa s_cg (Qa s_cj (Qa s_cq_1 Qc))))
theorem s_cn:Qb Tryz.prog 110 C_cn:=fnC (L:=[]) hT g_cn Tryz.f110 okP fun _=>by kernel_rfl
abbrev P_cr:List PK:=[.val Y26,.val Y38]
abbrev i_cr_2:Shp:={ slots:=[(0,.s (.dat Y26)),(3,.s (.ptr 3 0)),(7,.s (.dat YI)),(8,.s (.dat YI))],boxes:=[(3,[.dat YI,.dat YI])],rows:=[] }
def l_cr_2 (rec:i_cr_2.den→Option (denO o_j_2)) (u:i_cr_2.den):Option (denO o_j_2):=
 if (ltI u.1.2.2.2.1 u.1.2.2.1) then
 if 0≤u.1.2.2.2.1 then
 ((u.1.1)[(u.1.2.2.2.1).toNat]?).bind fun y3=>
 if ((u.2.1.1.1==y3.1) && ((u.2.1.1.2.1==y3.2.1) && true)) then
 some (.inr (.inl ((u.1.2.2.2.1,()),((),()))))
 else
 let v4:=(IntKind.i64.wrap (u.1.2.2.2.1+(1:Int)))
 rec ((u.1.1,((),(u.1.2.2.1,(v4,())))),((u.2.1.1,()),()))
 else none
 else
 some (.inl ((),((),())))
def L_cr_2 (x:i_cr_2.den):Option (denO o_j_2):=Qd l_cr_2 lots x
def F_cr (x:denP P_cr):FO P_cr R_c:=
 let v1:=((x.1.length:Nat):Int)
 (L_cr_2 ((x.1,((),(v1,((0:Int),())))),(((x.2.1.1,(x.2.1.2.1,())),()),()))).bind fun z5=>
 match z5 with
 | .inl x6=>
  some (((-1:Int),()),())
 | .inr z5_=>
  match z5_ with
  | .inl x7=>
   some ((x7.1.1,()),())
  | .inr z5__=>
   none
abbrev C_cr:Con:=⟨P_cr,R_c,F_cr,false⟩
abbrev c_cr_2:Cut:=⟨i_cr_2,o_j_2,fun x=>Qd l_cr_2 lots x⟩
theorem k_cr_2:Qt Tryz.prog 19 (.loop (nav Tryz.f140 [1,0,1,0,0])) c_cr_2:=
  Qg (L:=[]) hT g_a (fun _ _=>by kernel_rfl) okP _
theorem r_cr (x):QF T G_a [(2,c_cr_2)] Tryz.f140 C_cr.ps C_cr.rs x=C_cr.F x:=by kernel_rfl
theorem s_cr:Qb Tryz.prog 140 C_cr:=fnC (L:=[(2,c_cr_2)]) hT g_a Tryz.f140 (okS okP (okS (okS okP (okB (okU k_cr_2))) okP)) r_cr
def F_cs (x:denP P_cr):FO P_cr R_a:=
 (F_cr (x.1,x.2.1,())).bind fun r1=>
 some (((leI (0:Int) r1.1.1),()),())
abbrev C_cs:Con:=⟨P_cr,R_a,F_cs,false⟩
abbrev G_cs:Env:=[(140,C_cr)]
theorem g_cs:Qf Tryz.prog G_cs:=(Qa s_cr Qc)
theorem s_cs:Qb Tryz.prog 90 C_cs:=fnC (L:=[]) hT g_cs Tryz.f90 okP fun _=>by kernel_rfl
abbrev P_ct:List PK:=[.ptr Y28,.val Y38,.val Y26]
def F_ct (x:denP P_ct):FO P_ct R_c:=
 (F_cg (x.1,x.2.1.1,x.2.1.2.1,())).bind fun r1=>
 if (r1.1.1 !=(0:Int)) then
 some ((r1.1.1,()),())
 else
 (F_cs (x.2.2.1,x.2.1,())).bind fun r2=>
 if r2.1.1 then
 some (((6:Int),()),())
 else
 some (((0:Int),()),())
abbrev C_ct:Con:=⟨P_ct,R_c,F_ct,false⟩
abbrev G_ct:Env:=[(90,C_cs),(167,C_cg)]
theorem g_ct:Qf Tryz.prog G_ct:=(Qa s_cs (Qa s_cg Qc))
theorem s_ct:Qb Tryz.prog 111 C_ct:=fnC (L:=[]) hT g_ct Tryz.f111 okP fun _=>by kernel_rfl
abbrev i_cu_4:Shp:={ slots:=[(0,.s (.pd Y28)),(15,.s (.dat Y26)),(16,.s (.dat YI)),(17,.s (.dat YI))],boxes:=[],rows:=[] }
def l_cu_4 (rec:i_cu_4.den→Option (denO o_l_4)) (u:i_cu_4.den):Option (denO o_l_4):=
 if (ltI u.1.2.2.2.1 u.1.2.2.1) then
 if 0≤u.1.2.2.2.1 then
 ((u.1.2.1)[(u.1.2.2.2.1).toNat]?).bind fun y7=>
 (F_cf (u.1.1,y7.1,())).bind fun r8=>
 if (!r8.1.1) then
 some (.inr (.inl (((4:Int),()),((),()))))
 else
 (F_cd (y7.2.1,(1:Int),(50:Int),())).bind fun r9=>
 if (!r9.1.1) then
 some (.inr (.inl (((3:Int),()),((),()))))
 else
 let v10:=(IntKind.i64.wrap (u.1.2.2.2.1+(1:Int)))
 rec ((u.1.1,(u.1.2.1,(u.1.2.2.1,(v10,())))),((),()))
 else none
 else
 some (.inl ((),((),())))
def L_cu_4 (x:i_cu_4.den):Option (denO o_l_4):=Qd l_cu_4 lots x
def F_cu (x:denP P_g):FO P_g R_c:=
 let v1:=((x.1.2.2.2.1.length:Nat):Int)
 (F_cd (v1,(1:Int),(8:Int),())).bind fun r2=>
 if (!r2.1.1) then
 some (((2:Int),()),())
 else
 let v3:=((x.1.2.2.2.1.length:Nat):Int)
 (L_cu_4 ((x.1,(x.1.2.2.2.1,(v3,((0:Int),())))),((),()))).bind fun z11=>
 match z11 with
 | .inl x12=>
  some (((0:Int),()),())
 | .inr z11_=>
  match z11_ with
  | .inl x13=>
   some ((x13.1.1,()),())
  | .inr z11__=>
   none
abbrev C_cu:Con:=⟨P_g,R_c,F_cu,false⟩
abbrev G_cu:Env:=[(44,C_cf),(50,C_cd)]
theorem g_cu:Qf Tryz.prog G_cu:=(Qa s_cf (Qa s_cd Qc))
abbrev c_cu_4:Cut:=⟨i_cu_4,o_l_4,fun x=>Qd l_cu_4 lots x⟩
theorem k_cu_4:Qt Tryz.prog 33 (.loop (nav Tryz.f112 [1,1,0,1,0,0])) c_cu_4:=
  Qg (L:=[]) hT g_cu (fun _ _=>by kernel_rfl) okP _
theorem r_cu (x):QF T G_cu [(4,c_cu_4)] Tryz.f112 C_cu.ps C_cu.rs x=C_cu.F x:=by kernel_rfl
theorem s_cu:Qb Tryz.prog 112 C_cu:=fnC (L:=[(4,c_cu_4)]) hT g_cu Tryz.f112 (okS okP (okS okP (okS (okS okP (okB (okU k_cu_4))) okP))) r_cu
abbrev i_cv_14:Shp:={ slots:=[(1,.s (.ptr 1 0)),(43,.s (.dat Y26)),(44,.s (.dat YI)),(45,.s (.dat YI))],boxes:=[(1,[.dat Y24,.dat Y25,.dat Y26,.dat Y26])],rows:=[] }
abbrev o_cv_14:List (Ex×Shp):=[(.exit 2,{ slots:=[(1,.s (.ptr 1 0))],boxes:=[(1,[.dat Y24,.dat Y25,.dat Y26,.dat Y26])],rows:=[] }),(.ret,{ slots:=[(2,.s (.dat YI))],boxes:=[],rows:=[] })]
def l_cv_14 (rec:i_cv_14.den→Option (denO o_cv_14)) (u:i_cv_14.den):Option (denO o_cv_14):=
 if (ltI u.1.2.2.2.1 u.1.2.2.1) then
 if 0≤u.1.2.2.2.1 then
 ((u.1.2.1)[(u.1.2.2.2.1).toNat]?).bind fun y16=>
 if 0≤(0:Int)∧(0:Int)≤u.1.2.2.2.1∧u.1.2.2.2.1≤((u.2.1.1.2.2.1.length:Nat):Int) then
 let v17:=((u.2.1.1.2.2.1.drop ((0:Int)).toNat).take ((u.1.2.2.2.1).toNat-((0:Int)).toNat))
 (F_ct (u.2.1.1,y16,v17,())).bind fun r18=>
 if (r18.1.1 !=(0:Int)) then
 some (.inr (.inl ((r18.1.1,()),((),()))))
 else
 let v19:=(IntKind.i64.wrap (u.1.2.2.2.1+(1:Int)))
 rec (((),(u.1.2.1,(u.1.2.2.1,(v19,())))),((u.2.1.1,()),()))
 else none
 else none
 else
 some (.inl (((),()),((u.2.1.1,()),())))
def L_cv_14 (x:i_cv_14.den):Option (denO o_cv_14):=Qd l_cv_14 lots x
abbrev i_cv_7:Shp:={ slots:=[(1,.s (.ptr 1 0)),(25,.s (.dat Y25)),(26,.s (.dat YI)),(27,.s (.dat YI))],boxes:=[(1,[.dat Y24,.dat Y25,.dat Y26,.dat Y26])],rows:=[] }
abbrev o_cv_7:List (Ex×Shp):=[(.exit 0,{ slots:=[(1,.s (.ptr 1 0))],boxes:=[(1,[.dat Y24,.dat Y25,.dat Y26,.dat Y26])],rows:=[] }),(.ret,{ slots:=[(2,.s (.dat YI))],boxes:=[],rows:=[] })]
def l_cv_7 (rec:i_cv_7.den→Option (denO o_cv_7)) (u:i_cv_7.den):Option (denO o_cv_7):=
 if (ltI u.1.2.2.2.1 u.1.2.2.1) then
 if 0≤u.1.2.2.2.1 then
 ((u.1.2.1)[(u.1.2.2.2.1).toNat]?).bind fun y7=>
 if 0≤(0:Int)∧(0:Int)≤u.1.2.2.2.1∧u.1.2.2.2.1≤((u.2.1.1.2.1.length:Nat):Int) then
 let v8:=((u.2.1.1.2.1.drop ((0:Int)).toNat).take ((u.1.2.2.2.1).toNat-((0:Int)).toNat))
 (F_cn (u.2.1.1,y7,v8,())).bind fun r9=>
 if (r9.1.1 !=(0:Int)) then
 some (.inr (.inl ((r9.1.1,()),((),()))))
 else
 let v10:=(IntKind.i64.wrap (u.1.2.2.2.1+(1:Int)))
 rec (((),(u.1.2.1,(u.1.2.2.1,(v10,())))),((u.2.1.1,()),()))
 else none
 else none
 else
 some (.inl (((),()),((u.2.1.1,()),())))
def L_cv_7 (x:i_cv_7.den):Option (denO o_cv_7):=Qd l_cv_7 lots x
def F_cv (x:denP P_ac):FO P_ac R_c:=
 (F_ce (x.1,())).bind fun r1=>
 if (r1.1.1 !=(0:Int)) then
 some ((r1.1.1,()),())
 else
 let v2:=((x.1.2.1.length:Nat):Int)
 if (ltI (4:Int) v2)=false then
 let v3:=((x.1.2.2.1.length:Nat):Int)
 if (ltI (4:Int) v3) then
 some (((2:Int),()),())
 else
 let v4:=((x.1.2.1.length:Nat):Int)
 (L_cv_7 (((),(x.1.2.1,(v4,((0:Int),())))),(((x.1.1,(x.1.2.1,(x.1.2.2.1,(x.1.2.2.2.1,())))),()),()))).bind fun z11=>
 match z11 with
 | .inl x12=>
  let v13:=((x12.2.1.1.2.2.1.length:Nat):Int)
  (L_cv_14 (((),(x12.2.1.1.2.2.1,(v13,((0:Int),())))),((x12.2.1.1,()),()))).bind fun z20=>
  match z20 with
  | .inl x21=>
   (F_cu (x21.2.1.1,())).bind fun r22=>
   some ((r22.1.1,()),())
  | .inr z20_=>
   match z20_ with
   | .inl x23=>
    some ((x23.1.1,()),())
   | .inr z20__=>
    none
 | .inr z11_=>
  match z11_ with
  | .inl x24=>
   some ((x24.1.1,()),())
  | .inr z11__=>
   none
 else
 some (((2:Int),()),())
abbrev C_cv:Con:=⟨P_ac,R_c,F_cv,false⟩
abbrev G_cv:Env:=[(109,C_ce),(110,C_cn),(111,C_ct),(112,C_cu)]
theorem g_cv:Qf Tryz.prog G_cv:=(Qa s_ce (Qa s_cn (Qa s_ct (Qa s_cu Qc))))
abbrev c_cv_14:Cut:=⟨i_cv_14,o_cv_14,fun x=>Qd l_cv_14 lots x⟩
theorem k_cv_14:Qt Tryz.prog 61 (.loop (nav Tryz.f47 [1,1,1,1,0,1,0,0])) c_cv_14:=
  Qg (L:=[]) hT g_cv (fun _ _=>by kernel_rfl) okP _
abbrev c_cv_7:Cut:=⟨i_cv_7,o_cv_7,fun x=>Qd l_cv_7 lots x⟩
theorem k_cv_7:Qt Tryz.prog 61 (.loop (nav Tryz.f47 [1,1,1,0,1,0,0])) c_cv_7:=
  Qg (L:=[]) hT g_cv (fun _ _=>by kernel_rfl) okP _
theorem r_cv (x):QF T G_cv [(14,c_cv_14),(7,c_cv_7)] Tryz.f47 C_cv.ps C_cv.rs x=C_cv.F x:=by kernel_rfl
theorem s_cv:Qb Tryz.prog 47 C_cv:=fnC (L:=[(14,c_cv_14),(7,c_cv_7)]) hT g_cv Tryz.f47 (okS okP (okS okP (okS okP (okS (okS okP (okB (okU k_cv_7))) (okS (okS okP (okB (okU k_cv_14))) okP))))) r_cv
def F_cw (x:denP P_n):FO P_n R_a:=
 (F_cd (x.1,(0:Int),(4294967295:Int),())).bind fun r1=>
 some ((r1.1.1,()),())
abbrev C_cw:Con:=⟨P_n,R_a,F_cw,false⟩
theorem g_cw:Qf Tryz.prog G_ce:=(Qa s_cd Qc)
theorem s_cw:Qb Tryz.prog 113 C_cw:=fnC (L:=[]) hT g_cw Tryz.f113 okP fun _=>by kernel_rfl
end Go.Proofs.YtkkljegcnnfanaaGreatDoor
