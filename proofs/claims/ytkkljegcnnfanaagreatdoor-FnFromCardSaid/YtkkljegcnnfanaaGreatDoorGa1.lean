/- The functions of the laws, each as a plain function of data (F), and that the program's text does what F says. Printed by a program (wip/tools/gen.py). -/
import Derived.Test.YtkkljegcnnfanaaGreatDoorGt
set_option linter.unusedVariables false
set_option linter.unusedSimpArgs false
namespace Go.Proofs.YtkkljegcnnfanaaGreatDoor
open Go Go.RowKit S Go.Proofs
set_option maxRecDepth 100000
abbrev P_a:List PK:=[.val Y22]
abbrev R_a:List VK:=[.s (.dat .bool)]
def F_a (x:denP P_a):FO P_a R_a:=
 let v1:=((x.1.length:Nat):Int)
 some (((ltI (1048576:Int) v1),()),())
abbrev C_a:Con:=⟨P_a,R_a,F_a,false⟩
abbrev G_a:Env:=[]
theorem g_a:Be G_a:=Qc
theorem r_a (x):QA T G_a [] Tryz.f6 C_a.ps C_a.rs x=C_a.F x:=by kernel_rfl
theorem s_a:Bc 6 C_a:=fnC (L:=[]) hT g_a Tryz.f6 okP r_a
abbrev R_b:List VK:=[.s (.bx Y133)]
def F_b (x:denP P_a):FO P_a R_b:=some (((x.1,(0:Int),()),()),())
abbrev C_b:Con:=⟨P_a,R_b,F_b,false⟩
theorem w_b (A:Option Addr) (n cap:Nat) (w:World):Calls Tryz.prog 31 #[.slice A n cap] w fun e w'=>e= .returned (.pointer (some ⟨w.heap.size,0,none⟩))∧w'=w.alloc (.cells #[.slice A n cap,.int .i64 0] 134):=by
  go_enter Tryz.func31,Tryz.ntmps31
  go_wp2
  go_ret
  exact ⟨rfl,rfl⟩
theorem s_b:Bc 31 C_b:=(QtZ w_b).ok (QfF Tryz.func31 (by decide+kernel) (by kernel_rfl))
abbrev P_c:List PK:=[.box [.dat Y22,.dat YI] [.dat Y22,.dat YI],.val YI]
abbrev R_c:List VK:=[.s (.dat YI)]
def F_c (x:denP P_c):FO P_c R_c:=
 let v1:=(IntKind.i64.wrap (x.1.2.1+(1:Int)))
 if (ltI x.2.1 (1:Int)) then
 some (((0:Int),()),((x.1.1,(v1,())),()))
 else
 let v2:=(IntKind.i64.wrap (v1-(1:Int)))
 let v3:=((x.1.1.length:Nat):Int)
 if (v3==(0:Int)) then
 let v4:=(IntKind.i64.wrap (v2*(7:Int)))
 if x.2.1=0 then none else
 let v5:=((v4).tmod x.2.1)
 some ((v5,()),((x.1.1,(v1,())),()))
 else
 if v3=0 then none else
 let v6:=((v2).tmod v3)
 if 0≤v6 then
 ((x.1.1)[(v6).toNat]?).bind fun y7=>
 let v8:=(IntKind.i64.wrap y7)
 if v3=0 then none else
 let v9:=(IntKind.i64.wrap ((v2).tdiv v3))
 let v10:=(IntKind.i64.wrap (v9*(37:Int)))
 let v11:=(IntKind.i64.wrap (v8+v10))
 if (ltI (200:Int) x.2.1) then
 let v12:=(IntKind.i64.wrap (v11*(251:Int)))
 let v13:=(IntKind.i64.wrap (v2+(1:Int)))
 if v3=0 then none else
 let v14:=((v13).tmod v3)
 if 0≤v14 then
 ((x.1.1)[(v14).toNat]?).bind fun y15=>
 let v16:=(IntKind.i64.wrap y15)
 let v17:=(IntKind.i64.wrap (v16*(13:Int)))
 let v18:=(IntKind.i64.wrap (v12+v17))
 let v19:=(IntKind.i64.wrap (v18+v2))
 if x.2.1=0 then none else
 let v20:=((v19).tmod x.2.1)
 some ((v20,()),((x.1.1,(v1,())),()))
 else none
 else
 if x.2.1=0 then none else
 let v21:=((v11).tmod x.2.1)
 some ((v21,()),((x.1.1,(v1,())),()))
 else none
abbrev C_c:Con:=⟨P_c,R_c,F_c,false⟩
theorem s_c:Bc 82 C_c:=fnE g_a Tryz.f82
abbrev P_d:List PK:=[.box [.dat Y22,.dat YI] [.dat Y22,.dat YI],.val Y30]
def F_d (x:denP P_d):FO P_d R_c:=
 let v1:=((x.2.1.length:Nat):Int)
 (F_c (x.1,v1,())).bind fun r2=>
 if 0≤r2.1.1 then
 ((x.2.1)[(r2.1.1).toNat]?).bind fun y3=>
 some ((y3,()),(r2.2.1,()))
 else none
abbrev C_d:Con:=⟨P_d,R_c,F_d,false⟩
theorem s_d:Bc 52 C_d:=fnE (Qa s_c Qc) Tryz.f52
abbrev P_e:List PK:=[.val YI,.val YI,.val YI]
def F_e (x:denP P_e):FO P_e R_a:=
 if (leI x.2.1 x.1)=true then
 some (((leI x.1 x.2.2.1),()),())
 else
 some ((false,()),())
abbrev C_e:Con:=⟨P_e,R_a,F_e,false⟩
theorem s_e:Bc 94 C_e:=fnE g_a Tryz.f94
abbrev P_f:List PK:=[.val Y30,.val YI]
abbrev i_f_2:Shp:={ slots:=[(0,.s (.dat Y30)),(1,.s (.dat YI)),(5,.s (.dat YI))],boxes:=[],rows:=[] }
abbrev o_f_2:List (Ex×Shp):=[(.exit 0,{ slots:=[],boxes:=[],rows:=[] }),(.ret,{ slots:=[(4,.s (.dat .bool))],boxes:=[],rows:=[] })]
def l_f_2 (rec:i_f_2.den→Option (denO o_f_2)) (u:i_f_2.den):Option (denO o_f_2):=
 let v2:=((u.1.1.length:Nat):Int)
 if (ltI u.1.2.2.1 v2) then
 if 0≤u.1.2.2.1 then
 ((u.1.1)[(u.1.2.2.1).toNat]?).bind fun y3=>
 if (y3==u.1.2.1) then
 some (.inr (.inl ((true,()),((),()))))
 else
 let v4:=(IntKind.i64.wrap (u.1.2.2.1+(1:Int)))
 rec ((u.1.1,(u.1.2.1,(v4,()))),((),()))
 else none
 else
 some (.inl ((),((),())))
def L_f_2 (x:i_f_2.den):Option (denO o_f_2):=Qb l_f_2 lots x
def F_f (x:denP P_f):FO P_f R_a:=
 (L_f_2 ((x.1,(x.2.1,((0:Int),()))),((),()))).bind fun z5=>
 match z5 with
 | .inl x6=>
  some ((false,()),())
 | .inr z5_=>
  match z5_ with
  | .inl x7=>
   some ((x7.1.1,()),())
  | .inr z5__=>
   none
abbrev C_f:Con:=⟨P_f,R_a,F_f,false⟩
abbrev c_f_2:Cut:=⟨i_f_2,o_f_2,fun x=>Qb l_f_2 lots x⟩
theorem k_f_2:Bu 18 (.loop (nav Tryz.f190 [1,0,1,0,0])) c_f_2:=
  Qd (L:=[]) hT g_a (fun _ _=>by kernel_rfl) okP _
theorem r_f (x):QA T G_a [(2,c_f_2)] Tryz.f190 C_f.ps C_f.rs x=C_f.F x:=by kernel_rfl
theorem s_f:Bc 190 C_f:=fnC (L:=[(2,c_f_2)]) hT g_a Tryz.f190 (okS okP (okS (okS okP (okB (okU k_f_2))) okP)) r_f
abbrev P_g:List PK:=[.ptr Y28]
abbrev i_g_18:Shp:={ slots:=[(0,.s (.pd Y28)),(5,.s (.own 2 YI)),(6,.s (.dat YI)),(7,.s (.dat YI))],boxes:=[],rows:=[] }
abbrev o_g_18:List (Ex×Shp):=[(.exit 6,{ slots:=[(0,.s (.pd Y28)),(5,.s (.own 2 YI)),(6,.s (.dat YI))],boxes:=[],rows:=[] }),(.ret,{ slots:=[(2,.s (.dat YI))],boxes:=[],rows:=[] })]
def l_g_18 (rec:i_g_18.den→Option (denO o_g_18)) (u:i_g_18.den):Option (denO o_g_18):=
 if 0≤u.1.2.2.1 then
 ((u.1.1.1)[(u.1.2.2.1).toNat]?).bind fun y49=>
 let v50:=((y49.length:Nat):Int)
 if (ltI u.1.2.2.2.1 v50) then
 if 0≤u.1.2.2.1 then
 ((u.1.1.1)[(u.1.2.2.1).toNat]?).bind fun y51=>
 if 0≤u.1.2.2.2.1 then
 ((y51)[(u.1.2.2.2.1).toNat]?).bind fun y52=>
 (F_f (u.1.2.1,y52,())).bind fun r53=>
 if r53.1.1 then
 some (.inr (.inl (((6:Int),()),((),()))))
 else
 if 0≤u.1.2.2.1 then
 ((u.1.1.1)[(u.1.2.2.1).toNat]?).bind fun y54=>
 if 0≤u.1.2.2.2.1 then
 ((y54)[(u.1.2.2.2.1).toNat]?).bind fun y55=>
 if (u.1.2.1.length+[y55].length)*8≤140737488355328 then
 let v56:=(u.1.2.1++[y55])
 let v57:=(IntKind.i64.wrap (u.1.2.2.2.1+(1:Int)))
 rec ((u.1.1,(v56,(u.1.2.2.1,(v57,())))),((),()))
 else none
 else none
 else none
 else none
 else none
 else
 some (.inl ((u.1.1,(u.1.2.1,(u.1.2.2.1,()))),((),())))
 else none
def L_g_18 (x:i_g_18.den):Option (denO o_g_18):=Qb l_g_18 lots x
abbrev i_g_9:Shp:={ slots:=[(0,.s (.pd Y28)),(3,.s (.dat YI)),(4,.s (.dat YI)),(41,.s (.pd Y28)),(42,.s (.pd Y28)),(43,.s (.pd Y24)),(44,.s (.dat Y24)),(45,.s (.dat YI)),(46,.s (.pd Y30)),(47,.s (.dat Y30)),(48,.s (.dat YI)),(49,.s (.dat .bool))],boxes:=[],rows:=[] }
abbrev o_g_9:List (Ex×Shp):=[(.exit 2,{ slots:=[(0,.s (.pd Y28)),(3,.s (.dat YI)),(41,.s (.pd Y28)),(42,.s (.pd Y28)),(43,.s (.pd Y24)),(44,.s (.dat Y24)),(45,.s (.dat YI)),(46,.s (.pd Y30)),(47,.s (.dat Y30)),(48,.s (.dat YI)),(49,.s (.dat .bool))],boxes:=[],rows:=[] }),(.ret,{ slots:=[(2,.s (.dat YI))],boxes:=[],rows:=[] })]
def l_g_9 (rec:i_g_9.den→Option (denO o_g_9)) (u:i_g_9.den):Option (denO o_g_9):=
 if 0≤u.1.2.1 then
 ((u.1.1.1)[(u.1.2.1).toNat]?).bind fun y21=>
 let v22:=((y21.length:Nat):Int)
 if (ltI u.1.2.2.1 v22) then
 if 0≤u.1.2.1 then
 ((u.1.1.1)[(u.1.2.1).toNat]?).bind fun y23=>
 if 0≤u.1.2.2.1 then
 ((y23)[(u.1.2.2.1).toNat]?).bind fun y24=>
 (F_e (y24,(0:Int),(23:Int),())).bind fun r25=>
 if (!r25.1.1) then
 some (.inr (.inl (((3:Int),()),((),()))))
 else
 let v26:=(IntKind.i64.wrap (u.1.2.2.1+(1:Int)))
 rec ((u.1.1,(u.1.2.1,(v26,(u.1.2.2.2.1,(u.1.2.2.2.2.1,(u.1.2.2.2.2.2.1,(u.1.2.2.2.2.2.2.1,(u.1.2.2.2.2.2.2.2.1,(u.1.2.2.2.2.2.2.2.2.1,(u.1.2.2.2.2.2.2.2.2.2.1,(u.1.2.2.2.2.2.2.2.2.2.2.1,(u.1.2.2.2.2.2.2.2.2.2.2.2.1,())))))))))))),((),()))
 else none
 else none
 else
 some (.inl ((u.1.1,(u.1.2.1,(u.1.2.2.2.1,(u.1.2.2.2.2.1,(u.1.2.2.2.2.2.1,(u.1.2.2.2.2.2.2.1,(u.1.2.2.2.2.2.2.2.1,(u.1.2.2.2.2.2.2.2.2.1,(u.1.2.2.2.2.2.2.2.2.2.1,(u.1.2.2.2.2.2.2.2.2.2.2.1,(u.1.2.2.2.2.2.2.2.2.2.2.2.1,()))))))))))),((),())))
 else none
def L_g_9 (x:i_g_9.den):Option (denO o_g_9):=Qb l_g_9 lots x
abbrev i_g_15:Shp:={ slots:=[(0,.s (.pd Y28)),(5,.s (.own 2 YI)),(6,.s (.dat YI))],boxes:=[],rows:=[] }
abbrev o_g_15:List (Ex×Shp):=[(.exit 4,{ slots:=[],boxes:=[],rows:=[] }),(.ret,{ slots:=[(2,.s (.dat YI))],boxes:=[],rows:=[] })]
def l_g_15 (rec:i_g_15.den→Option (denO o_g_15)) (u:i_g_15.den):Option (denO o_g_15):=
 let v42:=((u.1.1.1.length:Nat):Int)
 if (ltI u.1.2.2.1 v42) then
 (L_g_18 ((u.1.1,(u.1.2.1,(u.1.2.2.1,((0:Int),())))),((),()))).bind fun z58=>
 match z58 with
 | .inl x59=>
  let v60:=(IntKind.i64.wrap (x59.1.2.2.1+(1:Int)))
  rec ((x59.1.1,(x59.1.2.1,(v60,()))),((),()))
 | .inr z58_=>
  match z58_ with
  | .inl x61=>
   some (.inr (.inl ((x61.1.1,()),((),()))))
  | .inr z58__=>
   none
 else
 some (.inl ((),((),())))
def L_g_15 (x:i_g_15.den):Option (denO o_g_15):=Qb l_g_15 lots x
abbrev i_g_4:Shp:={ slots:=[(0,.s (.pd Y28)),(3,.s (.dat YI))],boxes:=[],rows:=[] }
abbrev o_g_4:List (Ex×Shp):=[(.exit 0,{ slots:=[(0,.s (.pd Y28))],boxes:=[],rows:=[] }),(.ret,{ slots:=[(2,.s (.dat YI))],boxes:=[],rows:=[] })]
def l_g_4 (rec:i_g_4.den→Option (denO o_g_4)) (u:i_g_4.den):Option (denO o_g_4):=
 let v12:=((u.1.1.1.length:Nat):Int)
 if (ltI u.1.2.1 v12) then
 if 0≤u.1.2.1 then
 ((u.1.1.1)[(u.1.2.1).toNat]?).bind fun y13=>
 let v14:=((y13.length:Nat):Int)
 if (ltI v14 (1:Int))=false then
 if 0≤u.1.2.1 then
 ((u.1.1.1)[(u.1.2.1).toNat]?).bind fun y15=>
 let v16:=((y15.length:Nat):Int)
 if (ltI (5:Int) v16) then
 some (.inr (.inl (((2:Int),()),((),()))))
 else
 (L_g_9 ((u.1.1,(u.1.2.1,((0:Int),(u.1.1,(u.1.1,(u.1.1.1,(u.1.1.1,(u.1.2.1,(y15,(y15,(v16,((ltI (5:Int) v16),())))))))))))),((),()))).bind fun z27=>
 match z27 with
 | .inl x28=>
  let v29:=(IntKind.i64.wrap (x28.1.2.1+(1:Int)))
  rec ((x28.1.1,(v29,())),((),()))
 | .inr z27_=>
  match z27_ with
  | .inl x30=>
   some (.inr (.inl ((x30.1.1,()),((),()))))
  | .inr z27__=>
   none
 else none
 else
 some (.inr (.inl (((2:Int),()),((),()))))
 else none
 else
 some (.inl ((u.1.1,()),((),())))
def L_g_4 (x:i_g_4.den):Option (denO o_g_4):=Qb l_g_4 lots x
def F_g (x:denP P_g):FO P_g R_c:=
 let v1:=((x.1.1.length:Nat):Int)
 if (ltI v1 (1:Int))=false then
 let v2:=((x.1.1.length:Nat):Int)
 if (ltI (3:Int) v2) then
 some (((2:Int),()),())
 else
 (L_g_4 ((x.1,((0:Int),())),((),()))).bind fun z31=>
 match z31 with
 | .inl x32=>
  (L_g_15 ((x32.1.1,(([]:List (den YI)),((0:Int),()))),((),()))).bind fun z62=>
  match z62 with
  | .inl x63=>
   some (((0:Int),()),())
  | .inr z62_=>
   match z62_ with
   | .inl x64=>
    some ((x64.1.1,()),())
   | .inr z62__=>
    none
 | .inr z31_=>
  match z31_ with
  | .inl x65=>
   some ((x65.1.1,()),())
  | .inr z31__=>
   none
 else
 some (((2:Int),()),())
abbrev C_g:Con:=⟨P_g,R_c,F_g,false⟩
abbrev G_g:Env:=[(94,C_e),(190,C_f)]
theorem g_g:Be G_g:=(Qa s_e (Qa s_f Qc))
abbrev c_g_18:Cut:=⟨i_g_18,o_g_18,fun x=>Qb l_g_18 lots x⟩
theorem k_g_18:Bu 122 (.loop (nav Tryz.f141 [1,1,1,1,0,1,0,0,1,0,0,1,0,0])) c_g_18:=
  Qd (L:=[]) hT g_g (fun _ _=>by kernel_rfl) okP _
abbrev c_g_9:Cut:=⟨i_g_9,o_g_9,fun x=>Qb l_g_9 lots x⟩
theorem k_g_9:Bu 122 (.loop (nav Tryz.f141 [1,1,0,1,0,0,1,0,0,1,1,0,0])) c_g_9:=
  Qd (L:=[]) hT g_g (fun _ _=>by kernel_rfl) okP _
abbrev c_g_15:Cut:=⟨i_g_15,o_g_15,fun x=>Qb l_g_15 lots x⟩
theorem t_g_15 (rec x):run T G_g [(18,c_g_18)] (nav Tryz.f141 [1,1,1,1,0,1,0,0]) (mk 122 i_g_15 x) (QgU i_g_15 o_g_15 rec)=l_g_15 rec x:=by kernel_rfl
theorem k_g_15:Bu 122 (.loop (nav Tryz.f141 [1,1,1,1,0,1,0,0])) c_g_15:=
  Qd (L:=[(18,c_g_18)]) hT g_g t_g_15 (okS okP (okS (okB (okS okP (okB (okU k_g_18)))) okP)) _
abbrev c_g_4:Cut:=⟨i_g_4,o_g_4,fun x=>Qb l_g_4 lots x⟩
theorem t_g_4 (rec x):run T G_g [(9,c_g_9)] (nav Tryz.f141 [1,1,0,1,0,0]) (mk 122 i_g_4 x) (QgU i_g_4 o_g_4 rec)=l_g_4 rec x:=by kernel_rfl
theorem k_g_4:Bu 122 (.loop (nav Tryz.f141 [1,1,0,1,0,0])) c_g_4:=
  Qd (L:=[(9,c_g_9)]) hT g_g t_g_4 (okS okP (okS (okB (okS okP (okS okP (okB (okU k_g_9))))) okP)) _
theorem r_g (x):QA T G_g [(18,c_g_18),(9,c_g_9),(15,c_g_15),(4,c_g_4)] Tryz.f141 C_g.ps C_g.rs x=C_g.F x:=by kernel_rfl
theorem s_g:Bc 141 C_g:=fnC (L:=[(18,c_g_18),(9,c_g_9),(15,c_g_15),(4,c_g_4)]) hT g_g Tryz.f141 (okS okP (okS okP (okS (okS okP (okB (okU k_g_4))) (okS okP (okS (okS okP (okB (okU k_g_15))) okP))))) r_g
abbrev P_h:List PK:=[.ptr Y28,.val YI]
def F_h (x:denP P_h):FO P_h R_a:=
 let v1:=((x.1.1.length:Nat):Int)
 let v2:=(IntKind.i64.wrap (v1-(1:Int)))
 (F_e (x.2.1,(0:Int),v2,())).bind fun r3=>
 some ((r3.1.1,()),())
abbrev C_h:Con:=⟨P_h,R_a,F_h,false⟩
abbrev G_h:Env:=[(94,C_e)]
theorem s_h:Bc 55 C_h:=fnE (Qa s_e Qc) Tryz.f55
abbrev P_i:List PK:=[.ptr Y28,.val YI,.val YI]
def F_i (x:denP P_i):FO P_i R_c:=
 (F_h (x.1,x.2.1,())).bind fun r1=>
 if (!r1.1.1)=false then
 (F_h (x.1,x.2.2.1,())).bind fun r2=>
 if (!r2.1.1) then
 some (((4:Int),()),())
 else
 if (x.2.1==x.2.2.1) then
 some (((1:Int),()),())
 else
 some (((0:Int),()),())
 else
 some (((4:Int),()),())
abbrev C_i:Con:=⟨P_i,R_c,F_i,false⟩
theorem s_i:Bc 191 C_i:=fnE (Qa s_h Qc) Tryz.f191
abbrev i_j_2:Shp:={ slots:=[(0,.s (.pd Y28)),(1,.s (.dat YI)),(5,.s (.dat YI))],boxes:=[],rows:=[] }
abbrev o_j_2:List (Ex×Shp):=[(.exit 0,{ slots:=[],boxes:=[],rows:=[] }),(.ret,{ slots:=[(4,.s (.dat YI))],boxes:=[],rows:=[] })]
def l_j_2 (rec:i_j_2.den→Option (denO o_j_2)) (u:i_j_2.den):Option (denO o_j_2):=
 let v3:=((u.1.1.1.length:Nat):Int)
 if (ltI u.1.2.2.1 v3) then
 if 0≤u.1.2.2.1 then
 ((u.1.1.1)[(u.1.2.2.1).toNat]?).bind fun y4=>
 (F_f (y4,u.1.2.1,())).bind fun r5=>
 if r5.1.1 then
 some (.inr (.inl ((u.1.2.2.1,()),((),()))))
 else
 let v6:=(IntKind.i64.wrap (u.1.2.2.1+(1:Int)))
 rec ((u.1.1,(u.1.2.1,(v6,()))),((),()))
 else none
 else
 some (.inl ((),((),())))
def L_j_2 (x:i_j_2.den):Option (denO o_j_2):=Qb l_j_2 lots x
def F_j (x:denP P_h):FO P_h R_c:=
 (L_j_2 ((x.1,(x.2.1,((0:Int),()))),((),()))).bind fun z7=>
 match z7 with
 | .inl x8=>
  some (((-1:Int),()),())
 | .inr z7_=>
  match z7_ with
  | .inl x9=>
   some ((x9.1.1,()),())
  | .inr z7__=>
   none
abbrev C_j:Con:=⟨P_h,R_c,F_j,false⟩
abbrev G_j:Env:=[(190,C_f)]
theorem g_j:Be G_j:=(Qa s_f Qc)
abbrev c_j_2:Cut:=⟨i_j_2,o_j_2,fun x=>Qb l_j_2 lots x⟩
theorem k_j_2:Bu 25 (.loop (nav Tryz.f192 [1,0,1,0,0])) c_j_2:=
  Qd (L:=[]) hT g_j (fun _ _=>by kernel_rfl) okP _
theorem r_j (x):QA T G_j [(2,c_j_2)] Tryz.f192 C_j.ps C_j.rs x=C_j.F x:=by kernel_rfl
theorem s_j:Bc 192 C_j:=fnC (L:=[(2,c_j_2)]) hT g_j Tryz.f192 (okS okP (okS (okS okP (okB (okU k_j_2))) okP)) r_j
abbrev P_k:List PK:=[.val Y122,.val YI,.val YI]
def F_k (x:denP P_k):FO P_k R_a:=
 if (x.1.1==x.2.1)=true then
 if (x.1.2.2.2.1==x.2.2.1)=false then
 if (x.1.2.1==x.2.1)=true then
 some (((x.1.2.2.2.2.1==x.2.2.1),()),())
 else
 some ((false,()),())
 else
 some ((true,()),())
 else
 if (x.1.2.1==x.2.1)=true then
 some (((x.1.2.2.2.2.1==x.2.2.1),()),())
 else
 some ((false,()),())
abbrev C_k:Con:=⟨P_k,R_a,F_k,false⟩
theorem s_k:Bc 193 C_k:=fnE g_a Tryz.f193
abbrev i_l_15:Shp:={ slots:=[(0,.s (.pd Y28)),(3,.s (.dat YI)),(4,.s (.ptr 4 0)),(6,.s (.dat YI)),(52,.s (.ptr 4 3)),(53,.s (.dat YI)),(54,.s (.dat .bool)),(55,.s (.dat .bool)),(58,.s (.ptr 4 4)),(59,.s (.dat YI)),(60,.s (.dat .bool)),(61,.s (.dat .bool))],boxes:=[(4,[.dat YI,.dat YI,.dat YI,.dat YI,.dat YI])],rows:=[] }
abbrev o_l_15:List (Ex×Shp):=[(.exit 2,{ slots:=[(0,.s (.pd Y28)),(3,.s (.dat YI)),(52,.s (.ptr 4 3)),(53,.s (.dat YI)),(54,.s (.dat .bool)),(55,.s (.dat .bool)),(58,.s (.ptr 4 4)),(59,.s (.dat YI)),(60,.s (.dat .bool)),(61,.s (.dat .bool))],boxes:=[(4,[.dat YI,.dat YI,.dat YI,.dat YI,.dat YI])],rows:=[] }),(.ret,{ slots:=[(2,.s (.dat YI))],boxes:=[],rows:=[] })]
def l_l_15 (rec:i_l_15.den→Option (denO o_l_15)) (u:i_l_15.den):Option (denO o_l_15):=
 if (ltI u.1.2.2.2.1 u.1.2.1) then
 if 0≤u.1.2.2.2.1 then
 ((u.1.1.2.1)[(u.1.2.2.2.1).toNat]?).bind fun y25=>
 if (y25.2.2.1==u.2.1.1.2.2.1)=false then
 (F_k (y25,u.2.1.1.1,u.2.1.1.2.2.2.1,())).bind fun r26=>
 if r26.1.1=false then
 (F_k (y25,u.2.1.1.2.1,u.2.1.1.2.2.2.2.1,())).bind fun r27=>
 if r27.1.1 then
 some (.inr (.inl (((6:Int),()),((),()))))
 else
 let v28:=(IntKind.i64.wrap (u.1.2.2.2.1+(1:Int)))
 rec ((u.1.1,(u.1.2.1,((),(v28,((),(u.1.2.2.2.2.2.1,(u.1.2.2.2.2.2.2.1,(u.1.2.2.2.2.2.2.2.1,((),(u.1.2.2.2.2.2.2.2.2.2.1,(u.1.2.2.2.2.2.2.2.2.2.2.1,(u.1.2.2.2.2.2.2.2.2.2.2.2.1,())))))))))))),((u.2.1.1,()),()))
 else
 some (.inr (.inl (((6:Int),()),((),()))))
 else
 some (.inr (.inl (((6:Int),()),((),()))))
 else none
 else
 some (.inl ((u.1.1,(u.1.2.1,((),(u.1.2.2.2.2.2.1,(u.1.2.2.2.2.2.2.1,(u.1.2.2.2.2.2.2.2.1,((),(u.1.2.2.2.2.2.2.2.2.2.1,(u.1.2.2.2.2.2.2.2.2.2.2.1,(u.1.2.2.2.2.2.2.2.2.2.2.2.1,())))))))))),((u.2.1.1,()),())))
def L_l_15 (x:i_l_15.den):Option (denO o_l_15):=Qb l_l_15 lots x
abbrev o_l_4:List (Ex×Shp):=[(.exit 0,{ slots:=[],boxes:=[],rows:=[] }),(.ret,{ slots:=[(2,.s (.dat YI))],boxes:=[],rows:=[] })]
def l_l_4 (rec:i_g_4.den→Option (denO o_l_4)) (u:i_g_4.den):Option (denO o_l_4):=
 let v15:=((u.1.1.2.1.length:Nat):Int)
 if (ltI u.1.2.1 v15) then
 if 0≤u.1.2.1 then
 ((u.1.1.2.1)[(u.1.2.1).toNat]?).bind fun y16=>
 (F_i (u.1.1,y16.1,y16.2.1,())).bind fun r17=>
 if (r17.1.1 !=(0:Int)) then
 some (.inr (.inl ((r17.1.1,()),((),()))))
 else
 (F_e (y16.2.2.1,(0:Int),(23:Int),())).bind fun r18=>
 if (!r18.1.1)=false then
 (F_e (y16.2.2.2.1,(5:Int),(6:Int),())).bind fun r19=>
 if (!r19.1.1)=false then
 (F_e (y16.2.2.2.2.1,(5:Int),(6:Int),())).bind fun r20=>
 if (!r20.1.1) then
 some (.inr (.inl (((3:Int),()),((),()))))
 else
 (F_j (u.1.1,y16.2.2.1,())).bind fun r21=>
 if (leI (0:Int) r21.1.1) then
 some (.inr (.inl (((6:Int),()),((),()))))
 else
 (L_l_15 ((u.1.1,(u.1.2.1,((),((0:Int),((),(y16.2.2.2.1,(r19.1.1,((!r19.1.1),((),(y16.2.2.2.2.1,(r20.1.1,((!r20.1.1),())))))))))))),(((y16.1,(y16.2.1,(y16.2.2.1,(y16.2.2.2.1,(y16.2.2.2.2.1,()))))),()),()))).bind fun z29=>
 match z29 with
 | .inl x30=>
  let v31:=(IntKind.i64.wrap (x30.1.2.1+(1:Int)))
  rec ((x30.1.1,(v31,())),((),()))
 | .inr z29_=>
  match z29_ with
  | .inl x32=>
   some (.inr (.inl ((x32.1.1,()),((),()))))
  | .inr z29__=>
   none
 else
 some (.inr (.inl (((3:Int),()),((),()))))
 else
 some (.inr (.inl (((3:Int),()),((),()))))
 else none
 else
 some (.inl ((),((),())))
def L_l_4 (x:i_g_4.den):Option (denO o_l_4):=Qb l_l_4 lots x
def F_l (x:denP P_g):FO P_g R_c:=
 let v1:=((x.1.2.1.length:Nat):Int)
 if (ltI (4:Int) v1)=false then
 let v2:=((x.1.2.2.1.length:Nat):Int)
 if (ltI (4:Int) v2) then
 some (((2:Int),()),())
 else
 (L_l_4 ((x.1,((0:Int),())),((),()))).bind fun z33=>
 match z33 with
 | .inl x34=>
  some (((0:Int),()),())
 | .inr z33_=>
  match z33_ with
  | .inl x35=>
   some ((x35.1.1,()),())
  | .inr z33__=>
   none
 else
 some (((2:Int),()),())
abbrev C_l:Con:=⟨P_g,R_c,F_l,false⟩
abbrev G_l:Env:=[(94,C_e),(191,C_i),(192,C_j),(193,C_k)]
theorem g_l:Be G_l:=(Qa s_e (Qa s_i (Qa s_j (Qa s_k Qc))))
abbrev c_l_15:Cut:=⟨i_l_15,o_l_15,fun x=>Qb l_l_15 lots x⟩
theorem k_l_15:Bu 101 (.loop (nav Tryz.f142 [1,1,0,1,0,0,1,0,0,1,1,1,1,1,0,0])) c_l_15:=
  Qd (L:=[]) hT g_l (fun _ _=>by kernel_rfl) okP _
abbrev c_l_4:Cut:=⟨i_g_4,o_l_4,fun x=>Qb l_l_4 lots x⟩
theorem t_l_4 (rec x):run T G_l [(15,c_l_15)] (nav Tryz.f142 [1,1,0,1,0,0]) (mk 101 i_g_4 x) (QgU i_g_4 o_l_4 rec)=l_l_4 rec x:=by kernel_rfl
theorem k_l_4:Bu 101 (.loop (nav Tryz.f142 [1,1,0,1,0,0])) c_l_4:=
  Qd (L:=[(15,c_l_15)]) hT g_l t_l_4 (okS okP (okS (okB (okS okP (okS okP (okS okP (okS okP (okS okP (okB (okU k_l_15)))))))) okP)) _
theorem r_l (x):QA T G_l [(15,c_l_15),(4,c_l_4)] Tryz.f142 C_l.ps C_l.rs x=C_l.F x:=by kernel_rfl
theorem s_l:Bc 142 C_l:=fnC (L:=[(15,c_l_15),(4,c_l_4)]) hT g_l Tryz.f142 (okS okP (okS okP (okS (okS okP (okB (okU k_l_4))) okP))) r_l
abbrev P_m:List PK:=[.box [.dat Y22,.dat YI] [.dat Y22,.dat YI]]
abbrev R_m:List VK:=[.g [.own 1000003000030 Y30,.own 123 Y122,.own 53 Y38,.own 39 Y38]]
abbrev i_m_8:Shp:={ slots:=[(0,.s (.ptr 9000000 0)),(2,.s (.ptr 2 0)),(3,.s (.ptr 3 0)),(4,.s (.dat YI)),(5,.s (.dat YI)),(6,.s (.own 2 YI)),(7,.s (.dat YI))],boxes:=[(2,[.own 3000030 Y30,.own 123 Y122,.own 53 Y38,.own 39 Y38]),(3,[.own 3000030 Y30,.own 123 Y122,.own 53 Y38,.own 39 Y38]),(9000000,[.dat Y22,.dat YI])],rows:=[] }
abbrev o_m_8:List (Ex×Shp):=[(.exit 2,{ slots:=[(0,.s (.ptr 9000000 0)),(2,.s (.ptr 2 0)),(3,.s (.ptr 3 0)),(4,.s (.dat YI)),(5,.s (.dat YI)),(6,.s (.own 2 YI))],boxes:=[(2,[.own 3000030 Y30,.own 123 Y122,.own 53 Y38,.own 39 Y38]),(3,[.own 3000030 Y30,.own 123 Y122,.own 53 Y38,.own 39 Y38]),(9000000,[.dat Y22,.dat YI])],rows:=[] })]
def l_m_8 (rec:i_m_8.den→Option (denO o_m_8)) (u:i_m_8.den):Option (denO o_m_8):=
 if (ltI (0:Int) u.1.2.2.2.2.2.2.1) then
 if (u.1.2.2.2.2.2.1.length+[u.1.2.2.2.1].length)*8≤140737488355328 then
 let v8:=(u.1.2.2.2.2.2.1++[u.1.2.2.2.1])
 let v9:=(IntKind.i64.wrap (u.1.2.2.2.1+(1:Int)))
 let v10:=(IntKind.i64.wrap (u.1.2.2.2.2.2.2.1-(1:Int)))
 rec (((),((),((),(v9,(u.1.2.2.2.2.1,(v8,(v10,()))))))),((u.2.1.1,(u.2.1.2.1,(u.2.1.2.2.1,()))),()))
 else none
 else
 some (.inl (((),((),((),(u.1.2.2.2.1,(u.1.2.2.2.2.1,(u.1.2.2.2.2.2.1,())))))),((u.2.1.1,(u.2.1.2.1,(u.2.1.2.2.1,()))),())))
def L_m_8 (x:i_m_8.den):Option (denO o_m_8):=Qb l_m_8 lots x
abbrev i_m_29:Shp:={ slots:=[(0,.s (.ptr 9000000 0)),(2,.s (.ptr 2 0)),(3,.s (.ptr 3 0)),(8,.s (.dat YI)),(13,.s (.dat YI))],boxes:=[(2,[.own 3000030 Y30,.own 123 Y122,.own 53 Y38,.own 39 Y38]),(3,[.own 3000030 Y30,.own 123 Y122,.own 53 Y38,.own 39 Y38]),(9000000,[.dat Y22,.dat YI])],rows:=[] }
abbrev o_m_29:List (Ex×Shp):=[(.exit 8,{ slots:=[(2,.s (.ptr 2 0)),(3,.s (.ptr 3 0))],boxes:=[(2,[.own 3000030 Y30,.own 123 Y122,.own 53 Y38,.own 39 Y38]),(3,[.own 3000030 Y30,.own 123 Y122,.own 53 Y38,.own 39 Y38]),(9000000,[.dat Y22,.dat YI])],rows:=[] })]
def l_m_29 (rec:i_m_29.den→Option (denO o_m_29)) (u:i_m_29.den):Option (denO o_m_29):=
 if (ltI (0:Int) u.1.2.2.2.2.1) then
 (F_c (u.2.1.2.2.1,u.1.2.2.2.1,())).bind fun r57=>
 (F_c (r57.2.1,(9:Int),())).bind fun r58=>
 let v59:=(IntKind.i64.wrap ((1:Int)+r58.1.1))
 if (u.2.1.2.1.2.2.2.1.length+[(r57.1.1,(v59,()))].length)*16≤140737488355328 then
 let v60:=(u.2.1.2.1.2.2.2.1++[(r57.1.1,(v59,()))])
 let v61:=(IntKind.i64.wrap (u.1.2.2.2.2.1-(1:Int)))
 rec (((),((),((),(u.1.2.2.2.1,(v61,()))))),((u.2.1.1,((u.2.1.2.1.1,(u.2.1.2.1.2.1,(u.2.1.2.1.2.2.1,(v60,())))),(r58.2.1,()))),()))
 else none
 else
 some (.inl (((),((),())),((u.2.1.1,(u.2.1.2.1,(u.2.1.2.2.1,()))),())))
def L_m_29 (x:i_m_29.den):Option (denO o_m_29):=Qb l_m_29 lots x
abbrev i_m_23:Shp:={ slots:=[(0,.s (.ptr 9000000 0)),(2,.s (.ptr 2 0)),(3,.s (.ptr 3 0)),(8,.s (.dat YI)),(11,.s (.dat YI))],boxes:=[(2,[.own 3000030 Y30,.own 123 Y122,.own 53 Y38,.own 39 Y38]),(3,[.own 3000030 Y30,.own 123 Y122,.own 53 Y38,.own 39 Y38]),(9000000,[.dat Y22,.dat YI])],rows:=[] }
abbrev o_m_23:List (Ex×Shp):=[(.exit 6,{ slots:=[(0,.s (.ptr 9000000 0)),(2,.s (.ptr 2 0)),(3,.s (.ptr 3 0)),(8,.s (.dat YI))],boxes:=[(2,[.own 3000030 Y30,.own 123 Y122,.own 53 Y38,.own 39 Y38]),(3,[.own 3000030 Y30,.own 123 Y122,.own 53 Y38,.own 39 Y38]),(9000000,[.dat Y22,.dat YI])],rows:=[] })]
def l_m_23 (rec:i_m_23.den→Option (denO o_m_23)) (u:i_m_23.den):Option (denO o_m_23):=
 if (ltI (0:Int) u.1.2.2.2.2.1) then
 (F_c (u.2.1.2.2.1,u.1.2.2.2.1,())).bind fun r44=>
 (F_c (r44.2.1,u.1.2.2.2.1,())).bind fun r45=>
 if (r44.1.1 !=r45.1.1)=true then
 let v46:=((u.2.1.2.1.2.2.1.length:Nat):Int)
 if (ltI v46 (1:Int)) then
 if (u.2.1.2.1.2.2.1.length+[(r44.1.1,(r45.1.1,()))].length)*16≤140737488355328 then
 let v47:=(u.2.1.2.1.2.2.1++[(r44.1.1,(r45.1.1,()))])
 let v48:=(IntKind.i64.wrap (u.1.2.2.2.2.1-(1:Int)))
 rec (((),((),((),(u.1.2.2.2.1,(v48,()))))),((u.2.1.1,((u.2.1.2.1.1,(u.2.1.2.1.2.1,(v47,(u.2.1.2.1.2.2.2.1,())))),(r45.2.1,()))),()))
 else none
 else
 let v49:=(IntKind.i64.wrap (u.1.2.2.2.2.1-(1:Int)))
 rec (((),((),((),(u.1.2.2.2.1,(v49,()))))),((u.2.1.1,(u.2.1.2.1,(r45.2.1,()))),()))
 else
 let v50:=(IntKind.i64.wrap (u.1.2.2.2.2.1-(1:Int)))
 rec (((),((),((),(u.1.2.2.2.1,(v50,()))))),((u.2.1.1,(u.2.1.2.1,(r45.2.1,()))),()))
 else
 some (.inl (((),((),((),(u.1.2.2.2.1,())))),((u.2.1.1,(u.2.1.2.1,(u.2.1.2.2.1,()))),())))
def L_m_23 (x:i_m_23.den):Option (denO o_m_23):=Qb l_m_23 lots x
abbrev i_m_15:Shp:={ slots:=[(0,.s (.ptr 9000000 0)),(2,.s (.ptr 2 0)),(3,.s (.ptr 3 0)),(4,.s (.dat YI)),(8,.s (.dat YI)),(9,.s (.dat YI))],boxes:=[(2,[.own 3000030 Y30,.own 123 Y122,.own 53 Y38,.own 39 Y38]),(3,[.own 3000030 Y30,.own 123 Y122,.own 53 Y38,.own 39 Y38]),(9000000,[.dat Y22,.dat YI])],rows:=[] }
abbrev o_m_15:List (Ex×Shp):=[(.exit 4,{ slots:=[(0,.s (.ptr 9000000 0)),(2,.s (.ptr 2 0)),(3,.s (.ptr 3 0)),(8,.s (.dat YI))],boxes:=[(2,[.own 3000030 Y30,.own 123 Y122,.own 53 Y38,.own 39 Y38]),(3,[.own 3000030 Y30,.own 123 Y122,.own 53 Y38,.own 39 Y38]),(9000000,[.dat Y22,.dat YI])],rows:=[] })]
def l_m_15 (rec:i_m_15.den→Option (denO o_m_15)) (u:i_m_15.den):Option (denO o_m_15):=
 if (ltI (0:Int) u.1.2.2.2.2.2.1) then
 if (([]:List (den Y122)).length+u.2.1.2.1.2.1.length)*40≤140737488355328 then
 let v25:=(([]:List (den Y122))++u.2.1.2.1.2.1)
 (F_c (u.2.1.2.2.1,u.1.2.2.2.2.1,())).bind fun r26=>
 (F_c (r26.2.1,u.1.2.2.2.2.1,())).bind fun r27=>
 (F_c (r27.2.1,(2:Int),())).bind fun r28=>
 let v29:=(IntKind.i64.wrap ((5:Int)+r28.1.1))
 (F_c (r28.2.1,(2:Int),())).bind fun r30=>
 let v31:=(IntKind.i64.wrap ((5:Int)+r30.1.1))
 if (v25.length+[(r26.1.1,(r27.1.1,(u.1.2.2.2.1,(v29,(v31,())))))].length)*40≤140737488355328 then
 let v32:=(v25++[(r26.1.1,(r27.1.1,(u.1.2.2.2.1,(v29,(v31,())))))])
 (F_g ((u.2.1.2.1.1,(v32,(u.2.1.2.1.2.2.1,(u.2.1.2.1.2.2.2.1,())))),())).bind fun r33=>
 if (r33.1.1==(0:Int))=true then
 (F_l ((u.2.1.2.1.1,(v32,(u.2.1.2.1.2.2.1,(u.2.1.2.1.2.2.2.1,())))),())).bind fun r34=>
 if (r34.1.1==(0:Int)) then
 let v35:=(IntKind.i64.wrap (u.1.2.2.2.1+(1:Int)))
 let v36:=(IntKind.i64.wrap (u.1.2.2.2.2.2.1-(1:Int)))
 rec (((),((),((),(v35,(u.1.2.2.2.2.1,(v36,())))))),((u.2.1.1,((u.2.1.2.1.1,(v32,(u.2.1.2.1.2.2.1,(u.2.1.2.1.2.2.2.1,())))),(r30.2.1,()))),()))
 else
 let v37:=(IntKind.i64.wrap (u.1.2.2.2.2.2.1-(1:Int)))
 rec (((),((),((),(u.1.2.2.2.1,(u.1.2.2.2.2.1,(v37,())))))),((u.2.1.1,(u.2.1.2.1,(r30.2.1,()))),()))
 else
 let v38:=(IntKind.i64.wrap (u.1.2.2.2.2.2.1-(1:Int)))
 rec (((),((),((),(u.1.2.2.2.1,(u.1.2.2.2.2.1,(v38,())))))),((u.2.1.1,(u.2.1.2.1,(r30.2.1,()))),()))
 else none
 else none
 else
 some (.inl (((),((),((),(u.1.2.2.2.2.1,())))),((u.2.1.1,(u.2.1.2.1,(u.2.1.2.2.1,()))),())))
def L_m_15 (x:i_m_15.den):Option (denO o_m_15):=Qb l_m_15 lots x
abbrev i_m_4:Shp:={ slots:=[(0,.s (.ptr 9000000 0)),(2,.s (.ptr 2 0)),(3,.s (.ptr 3 0)),(4,.s (.dat YI)),(5,.s (.dat YI))],boxes:=[(2,[.own 3000030 Y30,.own 123 Y122,.own 53 Y38,.own 39 Y38]),(3,[.own 3000030 Y30,.own 123 Y122,.own 53 Y38,.own 39 Y38]),(9000000,[.dat Y22,.dat YI])],rows:=[] }
abbrev o_m_4:List (Ex×Shp):=[(.exit 0,{ slots:=[(0,.s (.ptr 9000000 0)),(2,.s (.ptr 2 0)),(3,.s (.ptr 3 0)),(4,.s (.dat YI))],boxes:=[(2,[.own 3000030 Y30,.own 123 Y122,.own 53 Y38,.own 39 Y38]),(3,[.own 3000030 Y30,.own 123 Y122,.own 53 Y38,.own 39 Y38]),(9000000,[.dat Y22,.dat YI])],rows:=[] })]
def l_m_4 (rec:i_m_4.den→Option (denO o_m_4)) (u:i_m_4.den):Option (denO o_m_4):=
 if (ltI (0:Int) u.1.2.2.2.2.1) then
 (F_c (u.2.1.2.2.1,(3:Int),())).bind fun r6=>
 let v7:=(IntKind.i64.wrap ((1:Int)+r6.1.1))
 (L_m_8 (((),((),((),(u.1.2.2.2.1,(u.1.2.2.2.2.1,(([]:List (den YI)),(v7,()))))))),((u.2.1.1,(u.2.1.2.1,(r6.2.1,()))),()))).bind fun z11=>
 match z11 with
 | .inl x12=>
  if (x12.2.1.2.1.1.length+[x12.1.2.2.2.2.2.1].length)*24≤140737488355328 then
  let v13:=(x12.2.1.2.1.1++[x12.1.2.2.2.2.2.1])
  let v14:=(IntKind.i64.wrap (x12.1.2.2.2.2.1-(1:Int)))
  rec (((),((),((),(x12.1.2.2.2.1,(v14,()))))),((x12.2.1.1,((v13,(x12.2.1.2.1.2.1,(x12.2.1.2.1.2.2.1,(x12.2.1.2.1.2.2.2.1,())))),(x12.2.1.2.2.1,()))),()))
  else none
 | .inr z11_=>
  none
 else
 some (.inl (((),((),((),(u.1.2.2.2.1,())))),((u.2.1.1,(u.2.1.2.1,(u.2.1.2.2.1,()))),())))
def L_m_4 (x:i_m_4.den):Option (denO o_m_4):=Qb l_m_4 lots x
def F_m (x:denP P_m):FO P_m R_m:=
 (F_c (x.1,(3:Int),())).bind fun r1=>
 (F_d (r1.2.1,[(2:Int),(3:Int),(3:Int),(1:Int)],())).bind fun r2=>
 (L_m_4 (((),((),((),(r1.1.1,(r2.1.1,()))))),(((([]:List (den Y30)),(([]:List (den Y122)),(([]:List (den Y38)),(([]:List (den Y38)),())))),((([]:List (den Y30)),(([]:List (den Y122)),(([]:List (den Y38)),(([]:List (den Y38)),())))),(r2.2.1,()))),()))).bind fun z15=>
 match z15 with
 | .inl x16=>
  let v17:=((x16.2.1.2.1.1.length:Nat):Int)
  (F_c (x16.2.1.2.2.1,(4:Int),())).bind fun r18=>
  (L_m_15 (((),((),((),(x16.1.2.2.2.1,(v17,(r18.1.1,())))))),((x16.2.1.1,(x16.2.1.2.1,(r18.2.1,()))),()))).bind fun z39=>
  match z39 with
  | .inl x40=>
   (F_c (x40.2.1.2.2.1,(3:Int),())).bind fun r41=>
   (L_m_23 (((),((),((),(x40.1.2.2.2.1,(r41.1.1,()))))),((x40.2.1.1,(x40.2.1.2.1,(r41.2.1,()))),()))).bind fun z51=>
   match z51 with
   | .inl x52=>
    (F_c (x52.2.1.2.2.1,(4:Int),())).bind fun r53=>
    let v54:=(IntKind.i64.wrap ((1:Int)+r53.1.1))
    (L_m_29 (((),((),((),(x52.1.2.2.2.1,(v54,()))))),((x52.2.1.1,(x52.2.1.2.1,(r53.2.1,()))),()))).bind fun z62=>
    match z62 with
    | .inl x63=>
     some ((x63.2.1.2.1,()),(x63.2.1.2.2.1,()))
    | .inr z62_=>
     none
   | .inr z51_=>
    none
  | .inr z39_=>
   none
 | .inr z15_=>
  none
abbrev C_m:Con:=⟨P_m,R_m,F_m,false⟩
abbrev G_m:Env:=[(52,C_d),(82,C_c),(141,C_g),(142,C_l)]
theorem g_m:Be G_m:=(Qa s_d (Qa s_c (Qa s_g (Qa s_l Qc))))
abbrev c_m_8:Cut:=⟨i_m_8,o_m_8,fun x=>Qb l_m_8 lots x⟩
theorem k_m_8:Bu 134 (.loop (nav Tryz.f130 [1,1,1,0,1,0,0,1,0,0,1,0,1,0,0])) c_m_8:=
  Qd (L:=[]) hTD g_m (fun _ _=>by kernel_rfl) okP _
abbrev c_m_29:Cut:=⟨i_m_29,o_m_29,fun x=>Qb l_m_29 lots x⟩
theorem k_m_29:Bu 134 (.loop (nav Tryz.f130 [1,1,1,1,1,1,1,0,1,0,0])) c_m_29:=
  Qd (L:=[]) hTD g_m (fun _ _=>by kernel_rfl) okP _
abbrev c_m_23:Cut:=⟨i_m_23,o_m_23,fun x=>Qb l_m_23 lots x⟩
theorem k_m_23:Bu 134 (.loop (nav Tryz.f130 [1,1,1,1,1,1,0,1,0,0])) c_m_23:=
  Qd (L:=[]) hTD g_m (fun _ _=>by kernel_rfl) okP _
abbrev c_m_15:Cut:=⟨i_m_15,o_m_15,fun x=>Qb l_m_15 lots x⟩
theorem k_m_15:Bu 134 (.loop (nav Tryz.f130 [1,1,1,1,1,0,1,0,0])) c_m_15:=
  Qd (L:=[]) hTD g_m (fun _ _=>by kernel_rfl) okP _
abbrev c_m_4:Cut:=⟨i_m_4,o_m_4,fun x=>Qb l_m_4 lots x⟩
theorem t_m_4 (rec x):run TD G_m [(8,c_m_8)] (nav Tryz.f130 [1,1,1,0,1,0,0]) (mk 134 i_m_4 x) (QgU i_m_4 o_m_4 rec)=l_m_4 rec x:=by kernel_rfl
theorem k_m_4:Bu 134 (.loop (nav Tryz.f130 [1,1,1,0,1,0,0])) c_m_4:=
  Qd (L:=[(8,c_m_8)]) hTD g_m t_m_4 (okS okP (okS (okB (okS okP (okS (okS okP (okB (okU k_m_8))) okP))) okP)) _
theorem r_m (x):QA TD G_m [(8,c_m_8),(29,c_m_29),(23,c_m_23),(15,c_m_15),(4,c_m_4)] Tryz.f130 C_m.ps C_m.rs x=C_m.F x:=by kernel_rfl
theorem s_m:Bc 130 C_m:=fnC (L:=[(8,c_m_8),(29,c_m_29),(23,c_m_23),(15,c_m_15),(4,c_m_4)]) hTD g_m Tryz.f130 (okS okP (okS okP (okS okP (okS (okS okP (okB (okU k_m_4))) (okS okP (okS (okS okP (okB (okU k_m_15))) (okS (okS okP (okB (okU k_m_23))) (okS (okS okP (okB (okU k_m_29))) okP)))))))) r_m
abbrev P_n:List PK:=[.val YI]
abbrev R_n:List VK:=[.s (.dat .bool),.s (.dat .bool),.s (.dat .bool)]
def F_n (x:denP P_n):FO P_n R_n:=
 if (x.1==(13:Int)) then
 some ((false,true,false,()),())
 else
 if (x.1==(19:Int)) then
 some ((false,true,false,()),())
 else
 if (x.1==(21:Int)) then
 some ((false,true,false,()),())
 else
 if (x.1==(22:Int)) then
 some ((true,false,false,()),())
 else
 if (x.1==(23:Int)) then
 some ((true,true,true,()),())
 else
 if (x.1==(24:Int)) then
 some ((true,true,true,()),())
 else
 if (x.1==(25:Int)) then
 some ((true,true,true,()),())
 else
 if (x.1==(26:Int)) then
 some ((true,true,true,()),())
 else
 some ((false,false,false,()),())
abbrev C_n:Con:=⟨P_n,R_n,F_n,false⟩
theorem s_n:Bc 242 C_n:=fnE g_a Tryz.f242
abbrev R_o:List VK:=[.s (.dat Y186)]
def F_o (x:denP P_m):FO P_m R_o:=
 (F_c (x.1,(26:Int),())).bind fun r1=>
 let v2:=(IntKind.i64.wrap ((1:Int)+r1.1.1))
 (F_c (r1.2.1,(16:Int),())).bind fun r3=>
 (F_c (r3.2.1,(16:Int),())).bind fun r4=>
 (F_c (r4.2.1,(16:Int),())).bind fun r5=>
 (F_c (r5.2.1,(64:Int),())).bind fun r6=>
 (F_c (r6.2.1,(8:Int),())).bind fun r7=>
 let v8:=(IntKind.i64.wrap ((65535:Int)-r7.1.1))
 (F_d (r7.2.1,[r5.1.1,r6.1.1,v8],())).bind fun r9=>
 (F_n (v2,())).bind fun r10=>
 if r10.1.1 then
 if r10.1.2.1 then
 if r10.1.2.2.1 then
 if (leI v2 (11:Int)) then
 let v11:=(((0:Int)).tmod (16:Int))
 if (v2==(21:Int))=false then
 if (v2==(22:Int)) then
 let v12:=((v11).tmod (11:Int))
 some (((v2,((0:Int),((0:Int),(v12,())))),()),(r9.2.1,()))
 else
 some (((v2,((0:Int),((0:Int),(v11,())))),()),(r9.2.1,()))
 else
 let v13:=((v11).tmod (11:Int))
 some (((v2,((0:Int),((0:Int),(v13,())))),()),(r9.2.1,()))
 else
 if (v2==(21:Int))=false then
 if (v2==(22:Int)) then
 let v14:=(((0:Int)).tmod (11:Int))
 some (((v2,((0:Int),((0:Int),(v14,())))),()),(r9.2.1,()))
 else
 some (((v2,((0:Int),((0:Int),((0:Int),())))),()),(r9.2.1,()))
 else
 let v15:=(((0:Int)).tmod (11:Int))
 some (((v2,((0:Int),((0:Int),(v15,())))),()),(r9.2.1,()))
 else
 if (leI v2 (11:Int)) then
 let v16:=((r9.1.1).tmod (16:Int))
 if (v2==(21:Int))=false then
 if (v2==(22:Int)) then
 let v17:=((v16).tmod (11:Int))
 some (((v2,((0:Int),((0:Int),(v17,())))),()),(r9.2.1,()))
 else
 some (((v2,((0:Int),((0:Int),(v16,())))),()),(r9.2.1,()))
 else
 let v18:=((v16).tmod (11:Int))
 some (((v2,((0:Int),((0:Int),(v18,())))),()),(r9.2.1,()))
 else
 if (v2==(21:Int))=false then
 if (v2==(22:Int)) then
 let v19:=((r9.1.1).tmod (11:Int))
 some (((v2,((0:Int),((0:Int),(v19,())))),()),(r9.2.1,()))
 else
 some (((v2,((0:Int),((0:Int),(r9.1.1,())))),()),(r9.2.1,()))
 else
 let v20:=((r9.1.1).tmod (11:Int))
 some (((v2,((0:Int),((0:Int),(v20,())))),()),(r9.2.1,()))
 else
 if r10.1.2.2.1 then
 if (leI v2 (11:Int)) then
 let v21:=(((0:Int)).tmod (16:Int))
 if (v2==(21:Int))=false then
 if (v2==(22:Int)) then
 let v22:=((v21).tmod (11:Int))
 some (((v2,((0:Int),(r4.1.1,(v22,())))),()),(r9.2.1,()))
 else
 some (((v2,((0:Int),(r4.1.1,(v21,())))),()),(r9.2.1,()))
 else
 let v23:=((v21).tmod (11:Int))
 some (((v2,((0:Int),(r4.1.1,(v23,())))),()),(r9.2.1,()))
 else
 if (v2==(21:Int))=false then
 if (v2==(22:Int)) then
 let v24:=(((0:Int)).tmod (11:Int))
 some (((v2,((0:Int),(r4.1.1,(v24,())))),()),(r9.2.1,()))
 else
 some (((v2,((0:Int),(r4.1.1,((0:Int),())))),()),(r9.2.1,()))
 else
 let v25:=(((0:Int)).tmod (11:Int))
 some (((v2,((0:Int),(r4.1.1,(v25,())))),()),(r9.2.1,()))
 else
 if (leI v2 (11:Int)) then
 let v26:=((r9.1.1).tmod (16:Int))
 if (v2==(21:Int))=false then
 if (v2==(22:Int)) then
 let v27:=((v26).tmod (11:Int))
 some (((v2,((0:Int),(r4.1.1,(v27,())))),()),(r9.2.1,()))
 else
 some (((v2,((0:Int),(r4.1.1,(v26,())))),()),(r9.2.1,()))
 else
 let v28:=((v26).tmod (11:Int))
 some (((v2,((0:Int),(r4.1.1,(v28,())))),()),(r9.2.1,()))
 else
 if (v2==(21:Int))=false then
 if (v2==(22:Int)) then
 let v29:=((r9.1.1).tmod (11:Int))
 some (((v2,((0:Int),(r4.1.1,(v29,())))),()),(r9.2.1,()))
 else
 some (((v2,((0:Int),(r4.1.1,(r9.1.1,())))),()),(r9.2.1,()))
 else
 let v30:=((r9.1.1).tmod (11:Int))
 some (((v2,((0:Int),(r4.1.1,(v30,())))),()),(r9.2.1,()))
 else
 if r10.1.2.1 then
 if r10.1.2.2.1 then
 if (leI v2 (11:Int)) then
 let v31:=(((0:Int)).tmod (16:Int))
 if (v2==(21:Int))=false then
 if (v2==(22:Int)) then
 let v32:=((v31).tmod (11:Int))
 some (((v2,(r3.1.1,((0:Int),(v32,())))),()),(r9.2.1,()))
 else
 some (((v2,(r3.1.1,((0:Int),(v31,())))),()),(r9.2.1,()))
 else
 let v33:=((v31).tmod (11:Int))
 some (((v2,(r3.1.1,((0:Int),(v33,())))),()),(r9.2.1,()))
 else
 if (v2==(21:Int))=false then
 if (v2==(22:Int)) then
 let v34:=(((0:Int)).tmod (11:Int))
 some (((v2,(r3.1.1,((0:Int),(v34,())))),()),(r9.2.1,()))
 else
 some (((v2,(r3.1.1,((0:Int),((0:Int),())))),()),(r9.2.1,()))
 else
 let v35:=(((0:Int)).tmod (11:Int))
 some (((v2,(r3.1.1,((0:Int),(v35,())))),()),(r9.2.1,()))
 else
 if (leI v2 (11:Int)) then
 let v36:=((r9.1.1).tmod (16:Int))
 if (v2==(21:Int))=false then
 if (v2==(22:Int)) then
 let v37:=((v36).tmod (11:Int))
 some (((v2,(r3.1.1,((0:Int),(v37,())))),()),(r9.2.1,()))
 else
 some (((v2,(r3.1.1,((0:Int),(v36,())))),()),(r9.2.1,()))
 else
 let v38:=((v36).tmod (11:Int))
 some (((v2,(r3.1.1,((0:Int),(v38,())))),()),(r9.2.1,()))
 else
 if (v2==(21:Int))=false then
 if (v2==(22:Int)) then
 let v39:=((r9.1.1).tmod (11:Int))
 some (((v2,(r3.1.1,((0:Int),(v39,())))),()),(r9.2.1,()))
 else
 some (((v2,(r3.1.1,((0:Int),(r9.1.1,())))),()),(r9.2.1,()))
 else
 let v40:=((r9.1.1).tmod (11:Int))
 some (((v2,(r3.1.1,((0:Int),(v40,())))),()),(r9.2.1,()))
 else
 if r10.1.2.2.1 then
 if (leI v2 (11:Int)) then
 let v41:=(((0:Int)).tmod (16:Int))
 if (v2==(21:Int))=false then
 if (v2==(22:Int)) then
 let v42:=((v41).tmod (11:Int))
 some (((v2,(r3.1.1,(r4.1.1,(v42,())))),()),(r9.2.1,()))
 else
 some (((v2,(r3.1.1,(r4.1.1,(v41,())))),()),(r9.2.1,()))
 else
 let v43:=((v41).tmod (11:Int))
 some (((v2,(r3.1.1,(r4.1.1,(v43,())))),()),(r9.2.1,()))
 else
 if (v2==(21:Int))=false then
 if (v2==(22:Int)) then
 let v44:=(((0:Int)).tmod (11:Int))
 some (((v2,(r3.1.1,(r4.1.1,(v44,())))),()),(r9.2.1,()))
 else
 some (((v2,(r3.1.1,(r4.1.1,((0:Int),())))),()),(r9.2.1,()))
 else
 let v45:=(((0:Int)).tmod (11:Int))
 some (((v2,(r3.1.1,(r4.1.1,(v45,())))),()),(r9.2.1,()))
 else
 if (leI v2 (11:Int)) then
 let v46:=((r9.1.1).tmod (16:Int))
 if (v2==(21:Int))=false then
 if (v2==(22:Int)) then
 let v47:=((v46).tmod (11:Int))
 some (((v2,(r3.1.1,(r4.1.1,(v47,())))),()),(r9.2.1,()))
 else
 some (((v2,(r3.1.1,(r4.1.1,(v46,())))),()),(r9.2.1,()))
 else
 let v48:=((v46).tmod (11:Int))
 some (((v2,(r3.1.1,(r4.1.1,(v48,())))),()),(r9.2.1,()))
 else
 if (v2==(21:Int))=false then
 if (v2==(22:Int)) then
 let v49:=((r9.1.1).tmod (11:Int))
 some (((v2,(r3.1.1,(r4.1.1,(v49,())))),()),(r9.2.1,()))
 else
 some (((v2,(r3.1.1,(r4.1.1,(r9.1.1,())))),()),(r9.2.1,()))
 else
 let v50:=((r9.1.1).tmod (11:Int))
 some (((v2,(r3.1.1,(r4.1.1,(v50,())))),()),(r9.2.1,()))
abbrev C_o:Con:=⟨P_m,R_o,F_o,false⟩
theorem s_o:Bc 252 C_o:=fnE (Qa s_d (Qa s_c (Qa s_n Qc))) Tryz.f252
def F_p (x:denP P_m):FO P_m R_o:=
 (F_c (x.1,(3:Int),())).bind fun r1=>
 let v2:=(IntKind.i64.wrap ((1:Int)+r1.1.1))
 (F_c (r1.2.1,(14:Int),())).bind fun r3=>
 if (r3.1.1==(0:Int)) then
 (F_c (r3.2.1,(4:Int),())).bind fun r4=>
 (F_c (r4.2.1,(9:Int),())).bind fun r5=>
 (F_c (r5.2.1,(8:Int),())).bind fun r6=>
 let v7:=(IntKind.i64.wrap ((56:Int)+r6.1.1))
 (F_c (r6.2.1,(16:Int),())).bind fun r8=>
 let v9:=(IntKind.i64.wrap ((40:Int)+r8.1.1))
 (F_d (r8.2.1,[r5.1.1,v7,v9,(65535:Int)],())).bind fun r10=>
 some ((((12:Int),(v2,(r4.1.1,(r10.1.1,())))),()),(r10.2.1,()))
 else
 if (r3.1.1==(1:Int)) then
 (F_c (r3.2.1,(4:Int),())).bind fun r11=>
 (F_c (r11.2.1,(9:Int),())).bind fun r12=>
 (F_c (r12.2.1,(8:Int),())).bind fun r13=>
 let v14:=(IntKind.i64.wrap ((56:Int)+r13.1.1))
 (F_c (r13.2.1,(16:Int),())).bind fun r15=>
 let v16:=(IntKind.i64.wrap ((40:Int)+r15.1.1))
 (F_d (r15.2.1,[r12.1.1,v14,v16,(65535:Int)],())).bind fun r17=>
 some ((((12:Int),(v2,(r11.1.1,(r17.1.1,())))),()),(r17.2.1,()))
 else
 if (r3.1.1==(2:Int)) then
 (F_c (r3.2.1,(4:Int),())).bind fun r18=>
 (F_c (r18.2.1,(9:Int),())).bind fun r19=>
 (F_c (r19.2.1,(8:Int),())).bind fun r20=>
 let v21:=(IntKind.i64.wrap ((56:Int)+r20.1.1))
 (F_c (r20.2.1,(16:Int),())).bind fun r22=>
 let v23:=(IntKind.i64.wrap ((40:Int)+r22.1.1))
 (F_d (r22.2.1,[r19.1.1,v21,v23,(65535:Int)],())).bind fun r24=>
 some ((((12:Int),(v2,(r18.1.1,(r24.1.1,())))),()),(r24.2.1,()))
 else
 if (r3.1.1==(3:Int)) then
 (F_c (r3.2.1,(11:Int),())).bind fun r25=>
 let v26:=(IntKind.i64.wrap ((1:Int)+r25.1.1))
 (F_c (r25.2.1,(4:Int),())).bind fun r27=>
 (F_c (r27.2.1,(4:Int),())).bind fun r28=>
 some (((v26,(v2,(r27.1.1,(r28.1.1,())))),()),(r28.2.1,()))
 else
 if (r3.1.1==(4:Int)) then
 (F_c (r3.2.1,(4:Int),())).bind fun r29=>
 (F_c (r29.2.1,(24:Int),())).bind fun r30=>
 (F_c (r30.2.1,(16:Int),())).bind fun r31=>
 let v32:=(IntKind.i64.wrap ((40:Int)+r31.1.1))
 (F_c (r31.2.1,(6:Int),())).bind fun r33=>
 let v34:=(IntKind.i64.wrap ((56:Int)+r33.1.1))
 (F_d (r33.2.1,[r30.1.1,v32,v34],())).bind fun r35=>
 some ((((15:Int),(v2,(r29.1.1,(r35.1.1,())))),()),(r35.2.1,()))
 else
 if (r3.1.1==(5:Int)) then
 (F_c (r3.2.1,(4:Int),())).bind fun r36=>
 (F_c (r36.2.1,(24:Int),())).bind fun r37=>
 (F_c (r37.2.1,(16:Int),())).bind fun r38=>
 let v39:=(IntKind.i64.wrap ((40:Int)+r38.1.1))
 (F_c (r38.2.1,(6:Int),())).bind fun r40=>
 let v41:=(IntKind.i64.wrap ((56:Int)+r40.1.1))
 (F_d (r40.2.1,[r37.1.1,v39,v41],())).bind fun r42=>
 some ((((15:Int),(v2,(r36.1.1,(r42.1.1,())))),()),(r42.2.1,()))
 else
 if (r3.1.1==(6:Int)) then
 (F_c (r3.2.1,(4:Int),())).bind fun r43=>
 (F_c (r43.2.1,(24:Int),())).bind fun r44=>
 (F_c (r44.2.1,(16:Int),())).bind fun r45=>
 let v46:=(IntKind.i64.wrap ((40:Int)+r45.1.1))
 (F_c (r45.2.1,(6:Int),())).bind fun r47=>
 let v48:=(IntKind.i64.wrap ((56:Int)+r47.1.1))
 (F_d (r47.2.1,[r44.1.1,v46,v48],())).bind fun r49=>
 some ((((14:Int),(v2,(r43.1.1,(r49.1.1,())))),()),(r49.2.1,()))
 else
 if (r3.1.1==(7:Int)) then
 (F_c (r3.2.1,(4:Int),())).bind fun r50=>
 (F_c (r50.2.1,(24:Int),())).bind fun r51=>
 (F_c (r51.2.1,(16:Int),())).bind fun r52=>
 let v53:=(IntKind.i64.wrap ((40:Int)+r52.1.1))
 (F_c (r52.2.1,(6:Int),())).bind fun r54=>
 let v55:=(IntKind.i64.wrap ((56:Int)+r54.1.1))
 (F_d (r54.2.1,[r51.1.1,v53,v55],())).bind fun r56=>
 some ((((14:Int),(v2,(r50.1.1,(r56.1.1,())))),()),(r56.2.1,()))
 else
 if (r3.1.1==(8:Int)) then
 (F_d (r3.2.1,[(16:Int),(17:Int),(18:Int)],())).bind fun r57=>
 (F_c (r57.2.1,(4:Int),())).bind fun r58=>
 (F_d (r58.2.1,[(1:Int),(2:Int),(65535:Int),(65533:Int)],())).bind fun r59=>
 some (((r57.1.1,(v2,(r58.1.1,(r59.1.1,())))),()),(r59.2.1,()))
 else
 if (r3.1.1==(9:Int)) then
 (F_d (r3.2.1,[(0:Int),(1:Int),(7:Int),(9:Int),(10:Int),(5:Int),(6:Int)],())).bind fun r60=>
 some ((((22:Int),((0:Int),(v2,(r60.1.1,())))),()),(r60.2.1,()))
 else
 if (r3.1.1==(10:Int)) then
 (F_c (r3.2.1,(11:Int),())).bind fun r61=>
 some ((((21:Int),(v2,((0:Int),(r61.1.1,())))),()),(r61.2.1,()))
 else
 if (r3.1.1==(11:Int)) then
 (F_d (r3.2.1,[(0:Int),(5:Int)],())).bind fun r62=>
 (F_d (r62.2.1,[(65534:Int),(65530:Int),(2:Int)],())).bind fun r63=>
 some ((((19:Int),(r62.1.1,((0:Int),(r63.1.1,())))),()),(r63.2.1,()))
 else
 (F_o (r3.2.1,())).bind fun r64=>
 some ((r64.1.1,()),(r64.2.1,()))
abbrev C_p:Con:=⟨P_m,R_o,F_p,false⟩
theorem s_p:Bc 224 C_p:=fnE (Qa s_d (Qa s_c (Qa s_o Qc))) Tryz.f224
abbrev P_q:List PK:=[.val Y186]
def F_q (x:denP P_q):FO P_q R_c:=
 (F_e (x.1.1,(1:Int),(26:Int),())).bind fun r1=>
 if (!r1.1.1)=false then
 (F_e (x.1.2.1,(0:Int),(15:Int),())).bind fun r2=>
 if (!r2.1.1)=false then
 (F_e (x.1.2.2.1,(0:Int),(15:Int),())).bind fun r3=>
 if (!r3.1.1)=false then
 (F_e (x.1.2.2.2.1,(0:Int),(65535:Int),())).bind fun r4=>
 if (!r4.1.1) then
 some (((3:Int),()),())
 else
 (F_n (x.1.1,())).bind fun r5=>
 if r5.1.1=true then
 if (x.1.2.1 !=(0:Int))=false then
 if r5.1.2.1=true then
 if (x.1.2.2.1 !=(0:Int))=false then
 if r5.1.2.2.1=true then
 if (x.1.2.2.2.1 !=(0:Int))=false then
 if (leI x.1.1 (11:Int))=true then
 if (ltI (15:Int) x.1.2.2.2.1)=false then
 if (x.1.1==(21:Int))=false then
 if (x.1.1==(22:Int))=true then
 if (ltI (10:Int) x.1.2.2.2.1) then
 some (((1:Int),()),())
 else
 some (((0:Int),()),())
 else
 some (((0:Int),()),())
 else
 if (ltI (10:Int) x.1.2.2.2.1) then
 some (((1:Int),()),())
 else
 some (((0:Int),()),())
 else
 some (((1:Int),()),())
 else
 if (x.1.1==(21:Int))=false then
 if (x.1.1==(22:Int))=true then
 if (ltI (10:Int) x.1.2.2.2.1) then
 some (((1:Int),()),())
 else
 some (((0:Int),()),())
 else
 some (((0:Int),()),())
 else
 if (ltI (10:Int) x.1.2.2.2.1) then
 some (((1:Int),()),())
 else
 some (((0:Int),()),())
 else
 some (((1:Int),()),())
 else
 if (leI x.1.1 (11:Int))=true then
 if (ltI (15:Int) x.1.2.2.2.1)=false then
 if (x.1.1==(21:Int))=false then
 if (x.1.1==(22:Int))=true then
 if (ltI (10:Int) x.1.2.2.2.1) then
 some (((1:Int),()),())
 else
 some (((0:Int),()),())
 else
 some (((0:Int),()),())
 else
 if (ltI (10:Int) x.1.2.2.2.1) then
 some (((1:Int),()),())
 else
 some (((0:Int),()),())
 else
 some (((1:Int),()),())
 else
 if (x.1.1==(21:Int))=false then
 if (x.1.1==(22:Int))=true then
 if (ltI (10:Int) x.1.2.2.2.1) then
 some (((1:Int),()),())
 else
 some (((0:Int),()),())
 else
 some (((0:Int),()),())
 else
 if (ltI (10:Int) x.1.2.2.2.1) then
 some (((1:Int),()),())
 else
 some (((0:Int),()),())
 else
 some (((1:Int),()),())
 else
 if r5.1.2.2.1=true then
 if (x.1.2.2.2.1 !=(0:Int))=false then
 if (leI x.1.1 (11:Int))=true then
 if (ltI (15:Int) x.1.2.2.2.1)=false then
 if (x.1.1==(21:Int))=false then
 if (x.1.1==(22:Int))=true then
 if (ltI (10:Int) x.1.2.2.2.1) then
 some (((1:Int),()),())
 else
 some (((0:Int),()),())
 else
 some (((0:Int),()),())
 else
 if (ltI (10:Int) x.1.2.2.2.1) then
 some (((1:Int),()),())
 else
 some (((0:Int),()),())
 else
 some (((1:Int),()),())
 else
 if (x.1.1==(21:Int))=false then
 if (x.1.1==(22:Int))=true then
 if (ltI (10:Int) x.1.2.2.2.1) then
 some (((1:Int),()),())
 else
 some (((0:Int),()),())
 else
 some (((0:Int),()),())
 else
 if (ltI (10:Int) x.1.2.2.2.1) then
 some (((1:Int),()),())
 else
 some (((0:Int),()),())
 else
 some (((1:Int),()),())
 else
 if (leI x.1.1 (11:Int))=true then
 if (ltI (15:Int) x.1.2.2.2.1)=false then
 if (x.1.1==(21:Int))=false then
 if (x.1.1==(22:Int))=true then
 if (ltI (10:Int) x.1.2.2.2.1) then
 some (((1:Int),()),())
 else
 some (((0:Int),()),())
 else
 some (((0:Int),()),())
 else
 if (ltI (10:Int) x.1.2.2.2.1) then
 some (((1:Int),()),())
 else
 some (((0:Int),()),())
 else
 some (((1:Int),()),())
 else
 if (x.1.1==(21:Int))=false then
 if (x.1.1==(22:Int))=true then
 if (ltI (10:Int) x.1.2.2.2.1) then
 some (((1:Int),()),())
 else
 some (((0:Int),()),())
 else
 some (((0:Int),()),())
 else
 if (ltI (10:Int) x.1.2.2.2.1) then
 some (((1:Int),()),())
 else
 some (((0:Int),()),())
 else
 some (((1:Int),()),())
 else
 if r5.1.2.1=true then
 if (x.1.2.2.1 !=(0:Int))=false then
 if r5.1.2.2.1=true then
 if (x.1.2.2.2.1 !=(0:Int))=false then
 if (leI x.1.1 (11:Int))=true then
 if (ltI (15:Int) x.1.2.2.2.1)=false then
 if (x.1.1==(21:Int))=false then
 if (x.1.1==(22:Int))=true then
 if (ltI (10:Int) x.1.2.2.2.1) then
 some (((1:Int),()),())
 else
 some (((0:Int),()),())
 else
 some (((0:Int),()),())
 else
 if (ltI (10:Int) x.1.2.2.2.1) then
 some (((1:Int),()),())
 else
 some (((0:Int),()),())
 else
 some (((1:Int),()),())
 else
 if (x.1.1==(21:Int))=false then
 if (x.1.1==(22:Int))=true then
 if (ltI (10:Int) x.1.2.2.2.1) then
 some (((1:Int),()),())
 else
 some (((0:Int),()),())
 else
 some (((0:Int),()),())
 else
 if (ltI (10:Int) x.1.2.2.2.1) then
 some (((1:Int),()),())
 else
 some (((0:Int),()),())
 else
 some (((1:Int),()),())
 else
 if (leI x.1.1 (11:Int))=true then
 if (ltI (15:Int) x.1.2.2.2.1)=false then
 if (x.1.1==(21:Int))=false then
 if (x.1.1==(22:Int))=true then
 if (ltI (10:Int) x.1.2.2.2.1) then
 some (((1:Int),()),())
 else
 some (((0:Int),()),())
 else
 some (((0:Int),()),())
 else
 if (ltI (10:Int) x.1.2.2.2.1) then
 some (((1:Int),()),())
 else
 some (((0:Int),()),())
 else
 some (((1:Int),()),())
 else
 if (x.1.1==(21:Int))=false then
 if (x.1.1==(22:Int))=true then
 if (ltI (10:Int) x.1.2.2.2.1) then
 some (((1:Int),()),())
 else
 some (((0:Int),()),())
 else
 some (((0:Int),()),())
 else
 if (ltI (10:Int) x.1.2.2.2.1) then
 some (((1:Int),()),())
 else
 some (((0:Int),()),())
 else
 some (((1:Int),()),())
 else
 if r5.1.2.2.1=true then
 if (x.1.2.2.2.1 !=(0:Int))=false then
 if (leI x.1.1 (11:Int))=true then
 if (ltI (15:Int) x.1.2.2.2.1)=false then
 if (x.1.1==(21:Int))=false then
 if (x.1.1==(22:Int))=true then
 if (ltI (10:Int) x.1.2.2.2.1) then
 some (((1:Int),()),())
 else
 some (((0:Int),()),())
 else
 some (((0:Int),()),())
 else
 if (ltI (10:Int) x.1.2.2.2.1) then
 some (((1:Int),()),())
 else
 some (((0:Int),()),())
 else
 some (((1:Int),()),())
 else
 if (x.1.1==(21:Int))=false then
 if (x.1.1==(22:Int))=true then
 if (ltI (10:Int) x.1.2.2.2.1) then
 some (((1:Int),()),())
 else
 some (((0:Int),()),())
 else
 some (((0:Int),()),())
 else
 if (ltI (10:Int) x.1.2.2.2.1) then
 some (((1:Int),()),())
 else
 some (((0:Int),()),())
 else
 some (((1:Int),()),())
 else
 if (leI x.1.1 (11:Int))=true then
 if (ltI (15:Int) x.1.2.2.2.1)=false then
 if (x.1.1==(21:Int))=false then
 if (x.1.1==(22:Int))=true then
 if (ltI (10:Int) x.1.2.2.2.1) then
 some (((1:Int),()),())
 else
 some (((0:Int),()),())
 else
 some (((0:Int),()),())
 else
 if (ltI (10:Int) x.1.2.2.2.1) then
 some (((1:Int),()),())
 else
 some (((0:Int),()),())
 else
 some (((1:Int),()),())
 else
 if (x.1.1==(21:Int))=false then
 if (x.1.1==(22:Int))=true then
 if (ltI (10:Int) x.1.2.2.2.1) then
 some (((1:Int),()),())
 else
 some (((0:Int),()),())
 else
 some (((0:Int),()),())
 else
 if (ltI (10:Int) x.1.2.2.2.1) then
 some (((1:Int),()),())
 else
 some (((0:Int),()),())
 else
 some (((3:Int),()),())
 else
 some (((3:Int),()),())
 else
 some (((3:Int),()),())
abbrev C_q:Con:=⟨P_q,R_c,F_q,false⟩
theorem s_q:Bc 198 C_q:=fnE (Qa s_e (Qa s_n Qc)) Tryz.f198
abbrev R_r:List VK:=[.s (.dat Y38)]
def F_r (x:denP P_q):FO P_q R_r:=
 (F_q (x.1,())).bind fun r1=>
 if (r1.1.1 !=(0:Int)) then
 some (((r1.1.1,((0:Int),())),()),())
 else
 let v2:=(IntKind.i64.wrap (x.1.1*2 ^ 24))
 let v3:=(IntKind.i64.wrap (x.1.2.1*2 ^ 20))
 let v4:=(IntKind.i64.wrap (v2+v3))
 let v5:=(IntKind.i64.wrap (x.1.2.2.1*2 ^ 16))
 let v6:=(IntKind.i64.wrap (v4+v5))
 let v7:=(IntKind.i64.wrap (v6+x.1.2.2.2.1))
 some ((((0:Int),(v7,())),()),())
abbrev C_r:Con:=⟨P_q,R_r,F_r,false⟩
theorem s_r:Bc 223 C_r:=fnE (Qa s_q Qc) Tryz.f223
def F_s (x:denP P_c):FO P_c R_a:=
 (F_c (x.1,x.2.1,())).bind fun r1=>
 some (((r1.1.1==(0:Int)),()),(r1.2.1,()))
abbrev C_s:Con:=⟨P_c,R_a,F_s,false⟩
theorem s_s:Bc 115 C_s:=fnE (Qa s_c Qc) Tryz.f115
def F_t (x:denP P_m):FO P_m R_c:=
 (F_c (x.1,(90:Int),())).bind fun r1=>
 (F_c (r1.2.1,(9:Int),())).bind fun r2=>
 (F_c (r2.2.1,(9:Int),())).bind fun r3=>
 let v4:=(IntKind.i64.wrap ((4294967295:Int)-r3.1.1))
 (F_c (r3.2.1,(60000:Int),())).bind fun r5=>
 let v6:=(IntKind.i64.wrap (r5.1.1*(70000:Int)))
 (F_d (r5.2.1,[r1.1.1,r2.1.1,v4,(2147483648:Int),(2147483647:Int),(0:Int),v6],())).bind fun r7=>
 some ((r7.1.1,()),(r7.2.1,()))
abbrev C_t:Con:=⟨P_m,R_c,F_t,false⟩
theorem s_t:Bc 114 C_t:=fnE (Qa s_d (Qa s_c Qc)) Tryz.f114
abbrev R_u:List VK:=[.s (.own 2 YI)]
abbrev i_u_2:Shp:={ slots:=[(0,.s (.ptr 9000000 0)),(1,.s (.dat YI)),(5,.s (.own 2 YI))],boxes:=[(9000000,[.dat Y22,.dat YI])],rows:=[] }
abbrev o_u_2:List (Ex×Shp):=[(.exit 0,{ slots:=[(5,.s (.own 2 YI))],boxes:=[(9000000,[.dat Y22,.dat YI])],rows:=[] })]
def l_u_2 (rec:i_u_2.den→Option (denO o_u_2)) (u:i_u_2.den):Option (denO o_u_2):=
 if (ltI (0:Int) u.1.2.1) then
 (F_p (u.2.1.1,())).bind fun r5=>
 (F_r (r5.1.1,())).bind fun r6=>
 (F_s (r5.2.1,(20:Int),())).bind fun r7=>
 if r7.1.1 then
 (F_t (r7.2.1,())).bind fun r8=>
 if (u.1.2.2.1.length+[r8.1.1].length)*8≤140737488355328 then
 let v9:=(u.1.2.2.1++[r8.1.1])
 let v10:=(IntKind.i64.wrap (u.1.2.1-(1:Int)))
 rec (((),(v10,(v9,()))),((r8.2.1,()),()))
 else none
 else
 if (u.1.2.2.1.length+[r6.1.1.2.1].length)*8≤140737488355328 then
 let v11:=(u.1.2.2.1++[r6.1.1.2.1])
 let v12:=(IntKind.i64.wrap (u.1.2.1-(1:Int)))
 rec (((),(v12,(v11,()))),((r7.2.1,()),()))
 else none
 else
 some (.inl ((u.1.2.2.1,()),((u.2.1.1,()),())))
def L_u_2 (x:i_u_2.den):Option (denO o_u_2):=Qb l_u_2 lots x
def F_u (x:denP P_c):FO P_c R_u:=
 (L_u_2 (((),(x.2.1,(([]:List (den YI)),()))),((x.1,()),()))).bind fun z13=>
 match z13 with
 | .inl x14=>
  some ((x14.1.1,()),(x14.2.1.1,()))
 | .inr z13_=>
  none
abbrev C_u:Con:=⟨P_c,R_u,F_u,false⟩
abbrev G_u:Env:=[(114,C_t),(115,C_s),(223,C_r),(224,C_p)]
theorem g_u:Be G_u:=(Qa s_t (Qa s_s (Qa s_r (Qa s_p Qc))))
abbrev c_u_2:Cut:=⟨i_u_2,o_u_2,fun x=>Qb l_u_2 lots x⟩
theorem k_u_2:Bu 25 (.loop (nav Tryz.f182 [1,1,0,0,0])) c_u_2:=
  Qd (L:=[]) hT g_u (fun _ _=>by kernel_rfl) okP _
theorem r_u (x):QA T G_u [(2,c_u_2)] Tryz.f182 C_u.ps C_u.rs x=C_u.F x:=by kernel_rfl
theorem s_u:Bc 182 C_u:=fnC (L:=[(2,c_u_2)]) hT g_u Tryz.f182 (okS okP (okS okP (okS (okB (okU k_u_2)) okP))) r_u
abbrev P_v:List PK:=[.box [.dat Y22,.dat YI] [.dat Y22,.dat YI],.val Y28]
abbrev R_v:List VK:=[.s (.own 30 Y30)]
abbrev i_v_3:Shp:={ slots:=[(0,.s (.ptr 9000000 0)),(3,.s (.ptr 3 0)),(5,.s (.own 30 Y30)),(6,.s (.dat YI))],boxes:=[(3,[.dat Y24,.dat Y25,.dat Y26,.dat Y26]),(9000000,[.dat Y22,.dat YI])],rows:=[] }
abbrev o_v_3:List (Ex×Shp):=[(.exit 0,{ slots:=[(5,.s (.own 30 Y30))],boxes:=[(9000000,[.dat Y22,.dat YI])],rows:=[] })]
def l_v_3 (rec:i_v_3.den→Option (denO o_v_3)) (u:i_v_3.den):Option (denO o_v_3):=
 let v4:=((u.2.1.1.1.length:Nat):Int)
 if (ltI u.1.2.2.2.1 v4) then
 if 0≤u.1.2.2.2.1 then
 ((u.2.1.1.1)[(u.1.2.2.2.1).toNat]?).bind fun y5=>
 let v6:=((y5.length:Nat):Int)
 let v7:=(IntKind.i64.wrap (v6*(8:Int)))
 let v8:=(IntKind.i64.wrap (v7+(1:Int)))
 (F_c (u.2.1.2.1,v8,())).bind fun r9=>
 (F_u (r9.2.1,r9.1.1,())).bind fun r10=>
 if (u.1.2.2.1.length+[r10.1.1].length)*24≤140737488355328 then
 let v11:=(u.1.2.2.1++[r10.1.1])
 let v12:=(IntKind.i64.wrap (u.1.2.2.2.1+(1:Int)))
 rec (((),((),(v11,(v12,())))),((u.2.1.1,(r10.2.1,())),()))
 else none
 else none
 else
 some (.inl ((u.1.2.2.1,()),((u.2.1.2.1,()),())))
def L_v_3 (x:i_v_3.den):Option (denO o_v_3):=Qb l_v_3 lots x
def F_v (x:denP P_v):FO P_v R_v:=
 (L_v_3 (((),((),(([]:List (den Y30)),((0:Int),())))),(((x.2.1.1,(x.2.1.2.1,(x.2.1.2.2.1,(x.2.1.2.2.2.1,())))),(x.1,())),()))).bind fun z13=>
 match z13 with
 | .inl x14=>
  some ((x14.1.1,()),(x14.2.1.1,()))
 | .inr z13_=>
  none
abbrev C_v:Con:=⟨P_v,R_v,F_v,false⟩
abbrev G_v:Env:=[(82,C_c),(182,C_u)]
theorem g_v:Be G_v:=(Qa s_c (Qa s_u Qc))
abbrev c_v_3:Cut:=⟨i_v_3,o_v_3,fun x=>Qb l_v_3 lots x⟩
theorem k_v_3:Bu 31 (.loop (nav Tryz.f132 [1,1,0,1,0,0])) c_v_3:=
  Qd (L:=[]) hT g_v (fun _ _=>by kernel_rfl) okP _
theorem r_v (x):QA T G_v [(3,c_v_3)] Tryz.f132 C_v.ps C_v.rs x=C_v.F x:=by kernel_rfl
theorem s_v:Bc 132 C_v:=fnC (L:=[(3,c_v_3)]) hT g_v Tryz.f132 (okS okP (okS okP (okS (okS okP (okB (okU k_v_3))) okP))) r_v
abbrev i_w_9:Shp:={ slots:=[(0,.s (.pd Y28)),(3,.s (.dat YI)),(4,.s (.ptr 4 0)),(6,.s (.dat YI))],boxes:=[(4,[.dat YI,.dat YI])],rows:=[] }
abbrev o_w_9:List (Ex×Shp):=[(.exit 2,{ slots:=[(0,.s (.pd Y28)),(3,.s (.dat YI))],boxes:=[],rows:=[] }),(.ret,{ slots:=[(2,.s (.dat YI))],boxes:=[],rows:=[] })]
def l_w_9 (rec:i_w_9.den→Option (denO o_w_9)) (u:i_w_9.den):Option (denO o_w_9):=
 if (ltI u.1.2.2.2.1 u.1.2.1) then
 if 0≤u.1.2.2.2.1 then
 ((u.1.1.2.2.1)[(u.1.2.2.2.1).toNat]?).bind fun y11=>
 if ((y11.1==u.2.1.1.1) && ((y11.2.1==u.2.1.1.2.1) && true)) then
 some (.inr (.inl (((6:Int),()),((),()))))
 else
 let v12:=(IntKind.i64.wrap (u.1.2.2.2.1+(1:Int)))
 rec ((u.1.1,(u.1.2.1,((),(v12,())))),((u.2.1.1,()),()))
 else none
 else
 some (.inl ((u.1.1,(u.1.2.1,())),((),())))
def L_w_9 (x:i_w_9.den):Option (denO o_w_9):=Qb l_w_9 lots x
abbrev i_w_16:Shp:={ slots:=[(0,.s (.pd Y28)),(7,.s (.dat YI))],boxes:=[],rows:=[] }
def l_w_16 (rec:i_w_16.den→Option (denO o_g_15)) (u:i_w_16.den):Option (denO o_g_15):=
 let v25:=((u.1.1.2.2.2.1.length:Nat):Int)
 if (ltI u.1.2.1 v25) then
 if 0≤u.1.2.1 then
 ((u.1.1.2.2.2.1)[(u.1.2.1).toNat]?).bind fun y26=>
 (F_h (u.1.1,y26.1,())).bind fun r27=>
 if (!r27.1.1) then
 some (.inr (.inl (((4:Int),()),((),()))))
 else
 if 0≤u.1.2.1 then
 ((u.1.1.2.2.2.1)[(u.1.2.1).toNat]?).bind fun y28=>
 (F_e (y28.2.1,(1:Int),(50:Int),())).bind fun r29=>
 if (!r29.1.1) then
 some (.inr (.inl (((3:Int),()),((),()))))
 else
 let v30:=(IntKind.i64.wrap (u.1.2.1+(1:Int)))
 rec ((u.1.1,(v30,())),((),()))
 else none
 else none
 else
 some (.inl ((),((),())))
def L_w_16 (x:i_w_16.den):Option (denO o_g_15):=Qb l_w_16 lots x
def l_w_2 (rec:i_g_4.den→Option (denO o_g_4)) (u:i_g_4.den):Option (denO o_g_4):=
 let v7:=((u.1.1.2.2.1.length:Nat):Int)
 if (ltI u.1.2.1 v7) then
 if 0≤u.1.2.1 then
 ((u.1.1.2.2.1)[(u.1.2.1).toNat]?).bind fun y8=>
 (F_i (u.1.1,y8.1,y8.2.1,())).bind fun r9=>
 if (r9.1.1 !=(0:Int)) then
 some (.inr (.inl ((r9.1.1,()),((),()))))
 else
 (L_w_9 ((u.1.1,(u.1.2.1,((),((0:Int),())))),(((y8.1,(y8.2.1,())),()),()))).bind fun z13=>
 match z13 with
 | .inl x14=>
  let v15:=(IntKind.i64.wrap (x14.1.2.1+(1:Int)))
  rec ((x14.1.1,(v15,())),((),()))
 | .inr z13_=>
  match z13_ with
  | .inl x16=>
   some (.inr (.inl ((x16.1.1,()),((),()))))
  | .inr z13__=>
   none
 else none
 else
 some (.inl ((u.1.1,()),((),())))
def L_w_2 (x:i_g_4.den):Option (denO o_g_4):=Qb l_w_2 lots x
def F_w (x:denP P_g):FO P_g R_c:=
 (L_w_2 ((x.1,((0:Int),())),((),()))).bind fun z17=>
 match z17 with
 | .inl x18=>
  let v19:=((x18.1.1.2.2.2.1.length:Nat):Int)
  if (ltI v19 (1:Int))=false then
  let v20:=((x18.1.1.2.2.2.1.length:Nat):Int)
  if (ltI (8:Int) v20) then
  some (((2:Int),()),())
  else
  (L_w_16 ((x18.1.1,((0:Int),())),((),()))).bind fun z31=>
  match z31 with
  | .inl x32=>
   some (((0:Int),()),())
  | .inr z31_=>
   match z31_ with
   | .inl x33=>
    some ((x33.1.1,()),())
   | .inr z31__=>
    none
  else
  some (((2:Int),()),())
 | .inr z17_=>
  match z17_ with
  | .inl x34=>
   some ((x34.1.1,()),())
  | .inr z17__=>
   none
abbrev C_w:Con:=⟨P_g,R_c,F_w,false⟩
abbrev G_w:Env:=[(55,C_h),(94,C_e),(191,C_i)]
theorem g_w:Be G_w:=(Qa s_h (Qa s_e (Qa s_i Qc)))
abbrev c_w_9:Cut:=⟨i_w_9,o_w_9,fun x=>Qb l_w_9 lots x⟩
theorem k_w_9:Bu 91 (.loop (nav Tryz.f143 [1,0,1,0,0,1,0,0,1,1,1,0,0])) c_w_9:=
  Qd (L:=[]) hT g_w (fun _ _=>by kernel_rfl) okP _
abbrev c_w_16:Cut:=⟨i_w_16,o_g_15,fun x=>Qb l_w_16 lots x⟩
theorem k_w_16:Bu 91 (.loop (nav Tryz.f143 [1,1,1,0,1,0,0])) c_w_16:=
  Qd (L:=[]) hT g_w (fun _ _=>by kernel_rfl) okP _
abbrev c_w_2:Cut:=⟨i_g_4,o_g_4,fun x=>Qb l_w_2 lots x⟩
theorem t_w_2 (rec x):run T G_w [(9,c_w_9)] (nav Tryz.f143 [1,0,1,0,0]) (mk 91 i_g_4 x) (QgU i_g_4 o_g_4 rec)=l_w_2 rec x:=by kernel_rfl
theorem k_w_2:Bu 91 (.loop (nav Tryz.f143 [1,0,1,0,0])) c_w_2:=
  Qd (L:=[(9,c_w_9)]) hT g_w t_w_2 (okS okP (okS (okB (okS okP (okS okP (okS okP (okB (okU k_w_9)))))) okP)) _
theorem r_w (x):QA T G_w [(9,c_w_9),(16,c_w_16),(2,c_w_2)] Tryz.f143 C_w.ps C_w.rs x=C_w.F x:=by kernel_rfl
theorem s_w:Bc 143 C_w:=fnC (L:=[(9,c_w_9),(16,c_w_16),(2,c_w_2)]) hT g_w Tryz.f143 (okS okP (okS (okS okP (okB (okU k_w_2))) (okS okP (okS (okS okP (okB (okU k_w_16))) okP)))) r_w
def F_x (x:denP P_g):FO P_g R_c:=
 (F_g (x.1,())).bind fun r1=>
 if (r1.1.1 !=(0:Int)) then
 some ((r1.1.1,()),())
 else
 (F_l (x.1,())).bind fun r2=>
 if (r2.1.1 !=(0:Int)) then
 some ((r2.1.1,()),())
 else
 (F_w (x.1,())).bind fun r3=>
 some ((r3.1.1,()),())
abbrev C_x:Con:=⟨P_g,R_c,F_x,false⟩
theorem s_x:Bc 91 C_x:=fnE (Qa s_g (Qa s_l (Qa s_w Qc))) Tryz.f91
abbrev P_y:List PK:=[.ptr Y28,.val Y24]
abbrev i_y_4:Shp:={ slots:=[(0,.s (.pd Y28)),(1,.s (.dat Y24)),(5,.s (.dat YI))],boxes:=[],rows:=[] }
def l_y_4 (rec:i_y_4.den→Option (denO o_j_2)) (u:i_y_4.den):Option (denO o_j_2):=
 let v5:=((u.1.2.1.length:Nat):Int)
 if (ltI u.1.2.2.1 v5) then
 if 0≤u.1.2.2.1 then
 ((u.1.2.1)[(u.1.2.2.1).toNat]?).bind fun y6=>
 let v7:=((y6.length:Nat):Int)
 if 0≤u.1.2.2.1 then
 ((u.1.1.1)[(u.1.2.2.1).toNat]?).bind fun y8=>
 let v9:=((y8.length:Nat):Int)
 let v10:=(IntKind.i64.wrap (v9*(8:Int)))
 if (ltI v10 v7) then
 some (.inr (.inl (((8:Int),()),((),()))))
 else
 let v11:=(IntKind.i64.wrap (u.1.2.2.1+(1:Int)))
 rec ((u.1.1,(u.1.2.1,(v11,()))),((),()))
 else none
 else none
 else
 some (.inl ((),((),())))
def L_y_4 (x:i_y_4.den):Option (denO o_j_2):=Qb l_y_4 lots x
def F_y (x:denP P_y):FO P_y R_c:=
 let v1:=((x.2.1.length:Nat):Int)
 let v2:=((x.1.1.length:Nat):Int)
 if (v1 !=v2) then
 some (((2:Int),()),())
 else
 (L_y_4 ((x.1,(x.2.1,((0:Int),()))),((),()))).bind fun z12=>
 match z12 with
 | .inl x13=>
  some (((0:Int),()),())
 | .inr z12_=>
  match z12_ with
  | .inl x14=>
   some ((x14.1.1,()),())
  | .inr z12__=>
   none
abbrev C_y:Con:=⟨P_y,R_c,F_y,false⟩
abbrev c_y_4:Cut:=⟨i_y_4,o_j_2,fun x=>Qb l_y_4 lots x⟩
theorem k_y_4:Bu 35 (.loop (nav Tryz.f221 [1,1,0,1,0,0])) c_y_4:=
  Qd (L:=[]) hT g_a (fun _ _=>by kernel_rfl) okP _
theorem r_y (x):QA T G_a [(4,c_y_4)] Tryz.f221 C_y.ps C_y.rs x=C_y.F x:=by kernel_rfl
theorem s_y:Bc 221 C_y:=fnC (L:=[(4,c_y_4)]) hT g_a Tryz.f221 (okS okP (okS okP (okS (okS okP (okB (okU k_y_4))) okP))) r_y
def F_z (x:denP P_n):FO P_n R_c:=
 let v1:=(IntKind.u32.wrap x.1)
 let v2:=(IntKind.i64.wrap v1)
 some ((v2,()),())
abbrev C_z:Con:=⟨P_n,R_c,F_z,false⟩
theorem s_z:Bc 225 C_z:=fnE g_a Tryz.f225
abbrev i_aa_6:Shp:={ slots:=[(0,.s (.pd Y28)),(1,.s (.dat Y24)),(5,.s (.own 2 YI)),(6,.s (.dat YI)),(7,.s (.dat YI))],boxes:=[],rows:=[] }
abbrev o_aa_6:List (Ex×Shp):=[(.exit 2,{ slots:=[(0,.s (.pd Y28)),(1,.s (.dat Y24)),(5,.s (.own 2 YI)),(6,.s (.dat YI))],boxes:=[],rows:=[] })]
def l_aa_6 (rec:i_aa_6.den→Option (denO o_aa_6)) (u:i_aa_6.den):Option (denO o_aa_6):=
 if 0≤u.1.2.2.2.1 then
 ((u.1.2.1)[(u.1.2.2.2.1).toNat]?).bind fun y18=>
 let v19:=((y18.length:Nat):Int)
 if (ltI u.1.2.2.2.2.1 v19) then
 if 0≤u.1.2.2.2.1 then
 ((u.1.1.1)[(u.1.2.2.2.1).toNat]?).bind fun y20=>
 let v21:=(IntKind.i64.wrap ((u.1.2.2.2.2.1).tdiv (8:Int)))
 if 0≤v21 then
 ((y20)[(v21).toNat]?).bind fun y22=>
 let v23:=(IntKind.i64.wrap (y22*(8:Int)))
 let v24:=((u.1.2.2.2.2.1).tmod (8:Int))
 let v25:=(IntKind.i64.wrap (v23+v24))
 if 0≤u.1.2.2.2.1 then
 ((u.1.2.1)[(u.1.2.2.2.1).toNat]?).bind fun y26=>
 if 0≤u.1.2.2.2.2.1 then
 ((y26)[(u.1.2.2.2.2.1).toNat]?).bind fun y27=>
 (F_z (y27,())).bind fun r28=>
 if 0≤v25∧v25< ((u.1.2.2.1.length:Nat):Int) then
 ((u.1.2.2.1)[(v25).toNat]?).bind fun y29=>
 let v30:=(u.1.2.2.1.set (v25).toNat r28.1.1)
 let v31:=(IntKind.i64.wrap (u.1.2.2.2.2.1+(1:Int)))
 rec ((u.1.1,(u.1.2.1,(v30,(u.1.2.2.2.1,(v31,()))))),((),()))
 else none
 else none
 else none
 else none
 else none
 else
 some (.inl ((u.1.1,(u.1.2.1,(u.1.2.2.1,(u.1.2.2.2.1,())))),((),())))
 else none
def L_aa_6 (x:i_aa_6.den):Option (denO o_aa_6):=Qb l_aa_6 lots x
abbrev i_aa_3:Shp:={ slots:=[(0,.s (.pd Y28)),(1,.s (.dat Y24)),(5,.s (.own 2 YI)),(6,.s (.dat YI))],boxes:=[],rows:=[] }
abbrev o_aa_3:List (Ex×Shp):=[(.exit 0,{ slots:=[(5,.s (.own 2 YI))],boxes:=[],rows:=[] })]
def l_aa_3 (rec:i_aa_3.den→Option (denO o_aa_3)) (u:i_aa_3.den):Option (denO o_aa_3):=
 let v10:=((u.1.2.1.length:Nat):Int)
 if (ltI u.1.2.2.2.1 v10) then
 (L_aa_6 ((u.1.1,(u.1.2.1,(u.1.2.2.1,(u.1.2.2.2.1,((0:Int),()))))),((),()))).bind fun z32=>
 match z32 with
 | .inl x33=>
  let v34:=(IntKind.i64.wrap (x33.1.2.2.2.1+(1:Int)))
  rec ((x33.1.1,(x33.1.2.1,(x33.1.2.2.1,(v34,())))),((),()))
 | .inr z32_=>
  none
 else
 some (.inl ((u.1.2.2.1,()),((),())))
def L_aa_3 (x:i_aa_3.den):Option (denO o_aa_3):=Qb l_aa_3 lots x
def F_aa (x:denP P_y):FO P_y R_u:=
 (L_aa_3 ((x.1,(x.2.1,((List.replicate ((192:Int)).toNat (Qbf YI)),((0:Int),())))),((),()))).bind fun z35=>
 match z35 with
 | .inl x36=>
  some ((x36.1.1,()),())
 | .inr z35_=>
  none
abbrev C_aa:Con:=⟨P_y,R_u,F_aa,false⟩
abbrev G_aa:Env:=[(225,C_z)]
theorem g_aa:Be G_aa:=(Qa s_z Qc)
abbrev c_aa_6:Cut:=⟨i_aa_6,o_aa_6,fun x=>Qb l_aa_6 lots x⟩
theorem k_aa_6:Bu 52 (.loop (nav Tryz.f222 [1,1,0,1,0,0,1,0,0,1,0,0])) c_aa_6:=
  Qd (L:=[]) hT g_aa (fun _ _=>by kernel_rfl) okP _
abbrev c_aa_3:Cut:=⟨i_aa_3,o_aa_3,fun x=>Qb l_aa_3 lots x⟩
theorem t_aa_3 (rec x):run T G_aa [(6,c_aa_6)] (nav Tryz.f222 [1,1,0,1,0,0]) (mk 52 i_aa_3 x) (QgU i_aa_3 o_aa_3 rec)=l_aa_3 rec x:=by kernel_rfl
theorem k_aa_3:Bu 52 (.loop (nav Tryz.f222 [1,1,0,1,0,0])) c_aa_3:=
  Qd (L:=[(6,c_aa_6)]) hT g_aa t_aa_3 (okS okP (okS (okB (okS okP (okB (okU k_aa_6)))) okP)) _
theorem r_aa (x):QA T G_aa [(6,c_aa_6),(3,c_aa_3)] Tryz.f222 C_aa.ps C_aa.rs x=C_aa.F x:=by kernel_rfl
theorem s_aa:Bc 222 C_aa:=fnC (L:=[(6,c_aa_6),(3,c_aa_3)]) hT g_aa Tryz.f222 (okS okP (okS okP (okS (okS okP (okB (okU k_aa_3))) okP))) r_aa
abbrev P_ab:List PK:=[.val Y28,.val Y24]
abbrev R_ab:List VK:=[.g [.dat YI,.own 2 YI]]
def F_ab (x:denP P_ab):FO P_ab R_ab:=
 (F_x (x.1,())).bind fun r1=>
 if (r1.1.1 !=(0:Int)) then
 some (((r1.1.1,(([]:List (den YI)),())),()),())
 else
 (F_y (x.1,x.2.1,())).bind fun r2=>
 if (r2.1.1 !=(0:Int)) then
 some (((r2.1.1,(([]:List (den YI)),())),()),())
 else
 (F_aa (x.1,x.2.1,())).bind fun r3=>
 some ((((0:Int),(r3.1.1,())),()),())
abbrev C_ab:Con:=⟨P_ab,R_ab,F_ab,false⟩
theorem s_ab:Bc 180 C_ab:=fnE (Qa s_x (Qa s_y (Qa s_aa Qc))) Tryz.f180
abbrev P_ac:List PK:=[.val Y28]
abbrev R_ac:List VK:=[.g [.own 30 Y30,.own 123 Y122,.own 53 Y38,.own 39 Y38]]
abbrev i_ac_3:Shp:={ slots:=[(1,.s (.ptr 1 0)),(2,.s (.ptr 2 0)),(3,.s (.ptr 3 0)),(4,.s (.dat YI))],boxes:=[(1,[.dat Y24,.dat Y25,.dat Y26,.dat Y26]),(2,[.own 30 Y30,.own 123 Y122,.own 53 Y38,.own 39 Y38]),(3,[.own 30 Y30,.own 123 Y122,.own 53 Y38,.own 39 Y38])],rows:=[] }
abbrev o_ac_3:List (Ex×Shp):=[(.exit 0,{ slots:=[(2,.s (.ptr 2 0)),(3,.s (.ptr 3 0))],boxes:=[(2,[.own 30 Y30,.own 123 Y122,.own 53 Y38,.own 39 Y38]),(3,[.own 30 Y30,.own 123 Y122,.own 53 Y38,.own 39 Y38])],rows:=[] })]
def l_ac_3 (rec:i_ac_3.den→Option (denO o_ac_3)) (u:i_ac_3.den):Option (denO o_ac_3):=
 let v5:=((u.2.1.1.1.length:Nat):Int)
 if (ltI u.1.2.2.2.1 v5) then
 if 0≤u.1.2.2.2.1 then
 ((u.2.1.1.1)[(u.1.2.2.2.1).toNat]?).bind fun y6=>
 if (([]:List (den YI)).length+y6.length)*8≤140737488355328 then
 let v7:=(([]:List (den YI))++y6)
 if (u.2.1.2.2.1.1.length+[v7].length)*24≤140737488355328 then
 let v8:=(u.2.1.2.2.1.1++[v7])
 let v9:=(IntKind.i64.wrap (u.1.2.2.2.1+(1:Int)))
 rec (((),((),((),(v9,())))),((u.2.1.1,(u.2.1.2.1,((v8,(u.2.1.2.2.1.2.1,(u.2.1.2.2.1.2.2.1,(u.2.1.2.2.1.2.2.2.1,())))),()))),()))
 else none
 else none
 else none
 else
 some (.inl (((),((),())),((u.2.1.2.1,(u.2.1.2.2.1,())),())))
def L_ac_3 (x:i_ac_3.den):Option (denO o_ac_3):=Qb l_ac_3 lots x
def F_ac (x:denP P_ac):FO P_ac R_ac:=
 if (([]:List (den Y122)).length+x.1.2.1.length)*40≤140737488355328 then
 let v1:=(([]:List (den Y122))++x.1.2.1)
 if (([]:List (den Y38)).length+x.1.2.2.1.length)*16≤140737488355328 then
 let v2:=(([]:List (den Y38))++x.1.2.2.1)
 if (([]:List (den Y38)).length+x.1.2.2.2.1.length)*16≤140737488355328 then
 let v3:=(([]:List (den Y38))++x.1.2.2.2.1)
 (L_ac_3 (((),((),((),((0:Int),())))),(((x.1.1,(x.1.2.1,(x.1.2.2.1,(x.1.2.2.2.1,())))),((([]:List (den Y30)),(([]:List (den Y122)),(([]:List (den Y38)),(([]:List (den Y38)),())))),((([]:List (den Y30)),(v1,(v2,(v3,())))),()))),()))).bind fun z10=>
 match z10 with
 | .inl x11=>
  some ((x11.2.1.2.1,()),())
 | .inr z10_=>
  none
 else none
 else none
 else none
abbrev C_ac:Con:=⟨P_ac,R_ac,F_ac,false⟩
abbrev c_ac_3:Cut:=⟨i_ac_3,o_ac_3,fun x=>Qb l_ac_3 lots x⟩
theorem k_ac_3:Bu 38 (.loop (nav Tryz.f96 [1,1,0,1,0,0])) c_ac_3:=
  Qd (L:=[]) hT g_a (fun _ _=>by kernel_rfl) okP _
theorem r_ac (x):QA T G_a [(3,c_ac_3)] Tryz.f96 C_ac.ps C_ac.rs x=C_ac.F x:=by kernel_rfl
theorem s_ac:Bc 96 C_ac:=fnC (L:=[(3,c_ac_3)]) hT g_a Tryz.f96 (okS okP (okS okP (okS (okS okP (okB (okU k_ac_3))) okP))) r_ac
def F_ad (x:denP P_n):FO P_n R_a:=
 (F_e (x.1,(0:Int),(4294967295:Int),())).bind fun r1=>
 some ((r1.1.1,()),())
abbrev C_ad:Con:=⟨P_n,R_a,F_ad,false⟩
theorem s_ad:Bc 144 C_ad:=fnE (Qa s_e Qc) Tryz.f144
abbrev P_ae:List PK:=[.val Y30]
abbrev i_ae_2:Shp:={ slots:=[(0,.s (.dat Y30)),(3,.s (.dat YI))],boxes:=[],rows:=[] }
abbrev o_ae_2:List (Ex×Shp):=[(.exit 0,{ slots:=[],boxes:=[],rows:=[] }),(.ret,{ slots:=[(2,.s (.dat .bool))],boxes:=[],rows:=[] })]
def l_ae_2 (rec:i_ae_2.den→Option (denO o_ae_2)) (u:i_ae_2.den):Option (denO o_ae_2):=
 let v3:=((u.1.1.length:Nat):Int)
 if (ltI u.1.2.1 v3) then
 if 0≤u.1.2.1 then
 ((u.1.1)[(u.1.2.1).toNat]?).bind fun y4=>
 (F_ad (y4,())).bind fun r5=>
 if (!r5.1.1) then
 some (.inr (.inl ((false,()),((),()))))
 else
 let v6:=(IntKind.i64.wrap (u.1.2.1+(1:Int)))
 rec ((u.1.1,(v6,())),((),()))
 else none
 else
 some (.inl ((),((),())))
def L_ae_2 (x:i_ae_2.den):Option (denO o_ae_2):=Qb l_ae_2 lots x
def F_ae (x:denP P_ae):FO P_ae R_a:=
 (L_ae_2 ((x.1,((0:Int),())),((),()))).bind fun z7=>
 match z7 with
 | .inl x8=>
  some ((true,()),())
 | .inr z7_=>
  match z7_ with
  | .inl x9=>
   some ((x9.1.1,()),())
  | .inr z7__=>
   none
abbrev C_ae:Con:=⟨P_ae,R_a,F_ae,false⟩
abbrev G_ae:Env:=[(144,C_ad)]
theorem g_ae:Be G_ae:=(Qa s_ad Qc)
abbrev c_ae_2:Cut:=⟨i_ae_2,o_ae_2,fun x=>Qb l_ae_2 lots x⟩
theorem k_ae_2:Bu 16 (.loop (nav Tryz.f117 [1,0,1,0,0])) c_ae_2:=
  Qd (L:=[]) hT g_ae (fun _ _=>by kernel_rfl) okP _
theorem r_ae (x):QA T G_ae [(2,c_ae_2)] Tryz.f117 C_ae.ps C_ae.rs x=C_ae.F x:=by kernel_rfl
theorem s_ae:Bc 117 C_ae:=fnC (L:=[(2,c_ae_2)]) hT g_ae Tryz.f117 (okS okP (okS (okS okP (okB (okU k_ae_2))) okP)) r_ae
abbrev R_af:List VK:=[.g [.dat YI,.own 2 YI,.dat YI,.own 2 YI,.dat .bool,.dat .bool,.dat .bool,.dat YI,.own 2 YI,.own 2 YI]]
def F_af (x:denP P_ae):FO P_ae R_af:=
 let v1:=((x.1.length:Nat):Int)
 if (ltI (40:Int) v1) then
 some ((((2:Int),(([]:List (den YI)),((0:Int),(([]:List (den YI)),(false,(false,(false,((0:Int),(([]:List (den YI)),(([]:List (den YI)),())))))))))),()),())
 else
 (F_ae (x.1,())).bind fun r2=>
 if (!r2.1.1) then
 some ((((3:Int),(([]:List (den YI)),((0:Int),(([]:List (den YI)),(false,(false,(false,((0:Int),(([]:List (den YI)),(([]:List (den YI)),())))))))))),()),())
 else
 if (([]:List (den YI)).length+x.1.length)*8≤140737488355328 then
 let v3:=(([]:List (den YI))++x.1)
 some ((((0:Int),((List.replicate ((16:Int)).toNat (Qbf YI)),((0:Int),((List.replicate ((11:Int)).toNat (Qbf YI)),(false,(false,(false,((0:Int),(v3,(([]:List (den YI)),())))))))))),()),())
 else none
abbrev C_af:Con:=⟨P_ae,R_af,F_af,false⟩
theorem s_af:Bc 181 C_af:=fnE (Qa s_ae Qc) Tryz.f181
abbrev P_ag:List PK:=[.val Y28,.val Y24,.val Y24]
abbrev R_ag:List VK:=[.g [.dat YI,.own 30 Y30,.own 123 Y122,.own 53 Y38,.own 39 Y38,.own 2 YI,.own 46 Y45,.dat YI,.dat YI,.dat YI]]
abbrev i_ag_8:Shp:={ slots:=[(2,.s (.dat Y24)),(6,.s (.ptr 6 0)),(8,.s (.ptr 8 0)),(9,.s (.dat YI))],boxes:=[(6,[.dat YI,.own 30 Y30,.own 123 Y122,.own 53 Y38,.own 39 Y38,.own 2 YI,.own 46 Y45,.dat YI,.dat YI,.dat YI]),(8,[.own 30 Y30,.own 123 Y122,.own 53 Y38,.own 39 Y38,.own 2 YI,.own 46 Y45,.dat YI,.dat YI,.dat YI])],rows:=[] }
abbrev o_ag_8:List (Ex×Shp):=[(.exit 0,{ slots:=[(6,.s (.ptr 6 0)),(8,.s (.ptr 8 0))],boxes:=[(6,[.dat YI,.own 30 Y30,.own 123 Y122,.own 53 Y38,.own 39 Y38,.own 2 YI,.own 46 Y45,.dat YI,.dat YI,.dat YI]),(8,[.own 30 Y30,.own 123 Y122,.own 53 Y38,.own 39 Y38,.own 2 YI,.own 46 Y45,.dat YI,.dat YI,.dat YI])],rows:=[] }),(.ret,{ slots:=[(6,.s (.ptr 6 0))],boxes:=[(6,[.dat YI,.own 30 Y30,.own 123 Y122,.own 53 Y38,.own 39 Y38,.own 2 YI,.own 46 Y45,.dat YI,.dat YI,.dat YI])],rows:=[] })]
def l_ag_8 (rec:i_ag_8.den→Option (denO o_ag_8)) (u:i_ag_8.den):Option (denO o_ag_8):=
 let v8:=((u.1.1.length:Nat):Int)
 if (ltI u.1.2.2.2.1 v8) then
 if 0≤u.1.2.2.2.1 then
 ((u.1.1)[(u.1.2.2.2.1).toNat]?).bind fun y9=>
 (F_af (y9,())).bind fun r10=>
 if (r10.1.1.1 !=(0:Int)) then
 some (.inr (.inl (((),()),(((r10.1.1.1,(([]:List (den Y30)),(([]:List (den Y122)),(([]:List (den Y38)),(([]:List (den Y38)),(([]:List (den YI)),(([]:List (den Y45)),((0:Int),((0:Int),((0:Int),())))))))))),()),()))))
 else
 if (u.2.1.2.1.2.2.2.2.2.1.length+[(r10.1.1.2.1,(r10.1.1.2.2.1,(r10.1.1.2.2.2.1,(r10.1.1.2.2.2.2.1,(r10.1.1.2.2.2.2.2.1,(r10.1.1.2.2.2.2.2.2.1,(r10.1.1.2.2.2.2.2.2.2.1,(r10.1.1.2.2.2.2.2.2.2.2.1,(r10.1.1.2.2.2.2.2.2.2.2.2.1,())))))))))].length)*120≤140737488355328 then
 let v11:=(u.2.1.2.1.2.2.2.2.2.1++[(r10.1.1.2.1,(r10.1.1.2.2.1,(r10.1.1.2.2.2.1,(r10.1.1.2.2.2.2.1,(r10.1.1.2.2.2.2.2.1,(r10.1.1.2.2.2.2.2.2.1,(r10.1.1.2.2.2.2.2.2.2.1,(r10.1.1.2.2.2.2.2.2.2.2.1,(r10.1.1.2.2.2.2.2.2.2.2.2.1,())))))))))])
 let v12:=(IntKind.i64.wrap (u.1.2.2.2.1+(1:Int)))
 rec ((u.1.1,((),((),(v12,())))),((u.2.1.1,((u.2.1.2.1.1,(u.2.1.2.1.2.1,(u.2.1.2.1.2.2.1,(u.2.1.2.1.2.2.2.1,(u.2.1.2.1.2.2.2.2.1,(v11,(u.2.1.2.1.2.2.2.2.2.2.1,(u.2.1.2.1.2.2.2.2.2.2.2.1,(u.2.1.2.1.2.2.2.2.2.2.2.2.1,()))))))))),())),()))
 else none
 else none
 else
 some (.inl (((),((),())),((u.2.1.1,(u.2.1.2.1,())),())))
def L_ag_8 (x:i_ag_8.den):Option (denO o_ag_8):=Qb l_ag_8 lots x
def F_ag (x:denP P_ag):FO P_ag R_ag:=
 (F_ab (x.1,x.2.1,())).bind fun r1=>
 if (r1.1.1.1 !=(0:Int)) then
 some (((r1.1.1.1,(([]:List (den Y30)),(([]:List (den Y122)),(([]:List (den Y38)),(([]:List (den Y38)),(([]:List (den YI)),(([]:List (den Y45)),((0:Int),((0:Int),((0:Int),())))))))))),()),())
 else
 let v2:=((x.2.2.1.length:Nat):Int)
 let v3:=((x.1.1.length:Nat):Int)
 if (v2 !=v3) then
 some ((((2:Int),(([]:List (den Y30)),(([]:List (den Y122)),(([]:List (den Y38)),(([]:List (den Y38)),(([]:List (den YI)),(([]:List (den Y45)),((0:Int),((0:Int),((0:Int),())))))))))),()),())
 else
 (F_ac (x.1,())).bind fun r4=>
 ((x.1.2.2.2.1)[((0:Int)).toNat]?).bind fun y5=>
 (L_ag_8 ((x.2.2.1,((),((),((0:Int),())))),((((0:Int),(([]:List (den Y30)),(([]:List (den Y122)),(([]:List (den Y38)),(([]:List (den Y38)),(([]:List (den YI)),(([]:List (den Y45)),((0:Int),((0:Int),((0:Int),())))))))))),((r4.1.1.1,(r4.1.1.2.1,(r4.1.1.2.2.1,(r4.1.1.2.2.2.1,(r1.1.1.2.1,(([]:List (den Y45)),((0:Int),(y5.2.1,((0:Int),()))))))))),())),()))).bind fun z13=>
 match z13 with
 | .inl x14=>
  some ((((0:Int),x14.2.1.2.1),()),())
 | .inr z13_=>
  match z13_ with
  | .inl x15=>
   some ((x15.2.1.1,()),())
  | .inr z13__=>
   none
abbrev C_ag:Con:=⟨P_ag,R_ag,F_ag,false⟩
abbrev G_ag:Env:=[(96,C_ac),(180,C_ab),(181,C_af)]
theorem g_ag:Be G_ag:=(Qa s_ac (Qa s_ab (Qa s_af Qc)))
abbrev c_ag_8:Cut:=⟨i_ag_8,o_ag_8,fun x=>Qb l_ag_8 lots x⟩
theorem k_ag_8:Bu 63 (.loop (nav Tryz.f131 [1,1,1,1,1,0,1,0,0])) c_ag_8:=
  Qd (L:=[]) hT g_ag (fun _ _=>by kernel_rfl) okP _
theorem r_ag (x):QA T G_ag [(8,c_ag_8)] Tryz.f131 C_ag.ps C_ag.rs x=C_ag.F x:=by kernel_rfl
theorem s_ag:Bc 131 C_ag:=fnC (L:=[(8,c_ag_8)]) hT g_ag Tryz.f131 (okS okP (okS okP (okS okP (okS okP (okS okP (okS (okS okP (okB (okU k_ag_8))) okP)))))) r_ag
abbrev R_ah:List VK:=[.g [.own 30 Y30,.own 123 Y122,.own 53 Y38,.own 39 Y38,.own 2 YI,.own 46 Y45,.dat YI,.dat YI,.dat YI]]
abbrev i_ah_4:Shp:={ slots:=[(0,.s (.ptr 9000000 0)),(2,.s (.ptr 2 0)),(3,.s (.ptr 3 0)),(4,.s (.own 30 Y30)),(5,.s (.dat YI))],boxes:=[(2,[.own 30 Y30,.own 123 Y122,.own 53 Y38,.own 39 Y38,.own 2 YI,.own 46 Y45,.dat YI,.dat YI,.dat YI]),(3,[.own 1000003000030 Y30,.own 123 Y122,.own 53 Y38,.own 39 Y38]),(9000000,[.dat Y22,.dat YI])],rows:=[] }
abbrev o_ah_4:List (Ex×Shp):=[(.exit 0,{ slots:=[(0,.s (.ptr 9000000 0)),(2,.s (.ptr 2 0)),(3,.s (.ptr 3 0)),(4,.s (.own 30 Y30))],boxes:=[(2,[.own 30 Y30,.own 123 Y122,.own 53 Y38,.own 39 Y38,.own 2 YI,.own 46 Y45,.dat YI,.dat YI,.dat YI]),(3,[.own 1000003000030 Y30,.own 123 Y122,.own 53 Y38,.own 39 Y38]),(9000000,[.dat Y22,.dat YI])],rows:=[] })]
def l_ah_4 (rec:i_ah_4.den→Option (denO o_ah_4)) (u:i_ah_4.den):Option (denO o_ah_4):=
 let v3:=((u.2.1.2.1.1.length:Nat):Int)
 if (ltI u.1.2.2.2.2.1 v3) then
 (F_c (u.2.1.2.2.1,(3:Int),())).bind fun r4=>
 if 0≤(0:Int)∧(0:Int)≤r4.1.1∧r4.1.1≤(([(5:Int),(6:Int)].length:Nat):Int) then
 if (u.1.2.2.2.1.length+[(([(5:Int),(6:Int)].drop (0+((0:Int)).toNat)).take ((r4.1.1).toNat-((0:Int)).toNat))].length)*24≤140737488355328 then
 let v5:=(u.1.2.2.2.1++[(([(5:Int),(6:Int)].drop (0+((0:Int)).toNat)).take ((r4.1.1).toNat-((0:Int)).toNat))])
 let v6:=(IntKind.i64.wrap (u.1.2.2.2.2.1+(1:Int)))
 rec (((),((),((),(v5,(v6,()))))),((u.2.1.1,(u.2.1.2.1,(r4.2.1,()))),()))
 else none
 else none
 else
 some (.inl (((),((),((),(u.1.2.2.2.1,())))),((u.2.1.1,(u.2.1.2.1,(u.2.1.2.2.1,()))),())))
def L_ah_4 (x:i_ah_4.den):Option (denO o_ah_4):=Qb l_ah_4 lots x
def F_ah (x:denP P_m):FO P_m R_ah:=
 (F_m (x.1,())).bind fun r1=>
 (L_ah_4 (((),((),((),(([]:List (den Y30)),((0:Int),()))))),(((([]:List (den Y30)),(([]:List (den Y122)),(([]:List (den Y38)),(([]:List (den Y38)),(([]:List (den YI)),(([]:List (den Y45)),((0:Int),((0:Int),((0:Int),()))))))))),(r1.1.1,(r1.2.1,()))),()))).bind fun z7=>
 match z7 with
 | .inl x8=>
  (F_v (x8.2.1.2.2.1,x8.2.1.2.1,())).bind fun r9=>
  (F_ag (x8.2.1.2.1,r9.1.1,x8.1.2.2.2.1,())).bind fun r10=>
  some (((r10.1.1.2.1,(r10.1.1.2.2.1,(r10.1.1.2.2.2.1,(r10.1.1.2.2.2.2.1,(r10.1.1.2.2.2.2.2.1,(r10.1.1.2.2.2.2.2.2.1,(r10.1.1.2.2.2.2.2.2.2.1,(r10.1.1.2.2.2.2.2.2.2.2.1,(r10.1.1.2.2.2.2.2.2.2.2.2.1,()))))))))),()),(r9.2.1,()))
 | .inr z7_=>
  none
abbrev C_ah:Con:=⟨P_m,R_ah,F_ah,false⟩
abbrev G_ah:Env:=[(82,C_c),(130,C_m),(131,C_ag),(132,C_v)]
theorem g_ah:Be G_ah:=(Qa s_c (Qa s_m (Qa s_ag (Qa s_v Qc))))
abbrev c_ah_4:Cut:=⟨i_ah_4,o_ah_4,fun x=>Qb l_ah_4 lots x⟩
theorem k_ah_4:Bu 30 (.loop (nav Tryz.f81 [1,1,1,0,1,0,0])) c_ah_4:=
  Qd (L:=[]) hT g_ah (fun _ _=>by kernel_rfl) okP _
theorem r_ah (x):QA T G_ah [(4,c_ah_4)] Tryz.f81 C_ah.ps C_ah.rs x=C_ah.F x:=by kernel_rfl
theorem s_ah:Bc 81 C_ah:=fnC (L:=[(4,c_ah_4)]) hT g_ah Tryz.f81 (okS okP (okS okP (okS okP (okS (okS okP (okB (okU k_ah_4))) okP)))) r_ah
abbrev P_ai:List PK:=[]
def F_ai (x:denP P_ai):FO P_ai R_r:=
 some ((((-1:Int),((0:Int),())),()),())
abbrev C_ai:Con:=⟨P_ai,R_r,F_ai,false⟩
theorem s_ai:Bc 145 C_ai:=fnE g_a Tryz.f145
abbrev R_aj:List VK:=[.s (.own 88 Y38)]
abbrev i_aj_11:Shp:={ slots:=[(0,.s (.pd Y28)),(1,.s (.dat YI)),(5,.s (.own 88 Y38)),(8,.s (.dat YI))],boxes:=[],rows:=[] }
abbrev o_aj_11:List (Ex×Shp):=[(.exit 4,{ slots:=[(5,.s (.own 88 Y38))],boxes:=[],rows:=[] })]
def l_aj_11 (rec:i_aj_11.den→Option (denO o_aj_11)) (u:i_aj_11.den):Option (denO o_aj_11):=
 let v24:=((u.1.1.2.1.length:Nat):Int)
 if (ltI u.1.2.2.2.1 v24) then
 if 0≤u.1.2.2.2.1 then
 ((u.1.1.2.1)[(u.1.2.2.2.1).toNat]?).bind fun y25=>
 if (y25.1==u.1.2.1) then
 if 0≤y25.2.2.2.1∧y25.2.2.2.1< ((u.1.2.2.1.length:Nat):Int) then
 ((u.1.2.2.1)[(y25.2.2.2.1).toNat]?).bind fun y26=>
 let v27:=(u.1.2.2.1.set (y25.2.2.2.1).toNat (y25.2.2.1,((3:Int),())))
 if (y25.2.1==u.1.2.1) then
 if 0≤y25.2.2.2.2.1∧y25.2.2.2.2.1< ((v27.length:Nat):Int) then
 ((v27)[(y25.2.2.2.2.1).toNat]?).bind fun y28=>
 let v29:=(v27.set (y25.2.2.2.2.1).toNat (y25.2.2.1,((1:Int),())))
 let v30:=(IntKind.i64.wrap (u.1.2.2.2.1+(1:Int)))
 rec ((u.1.1,(u.1.2.1,(v29,(v30,())))),((),()))
 else none
 else
 let v31:=(IntKind.i64.wrap (u.1.2.2.2.1+(1:Int)))
 rec ((u.1.1,(u.1.2.1,(v27,(v31,())))),((),()))
 else none
 else
 if (y25.2.1==u.1.2.1) then
 if 0≤y25.2.2.2.2.1∧y25.2.2.2.2.1< ((u.1.2.2.1.length:Nat):Int) then
 ((u.1.2.2.1)[(y25.2.2.2.2.1).toNat]?).bind fun y32=>
 let v33:=(u.1.2.2.1.set (y25.2.2.2.2.1).toNat (y25.2.2.1,((1:Int),())))
 let v34:=(IntKind.i64.wrap (u.1.2.2.2.1+(1:Int)))
 rec ((u.1.1,(u.1.2.1,(v33,(v34,())))),((),()))
 else none
 else
 let v35:=(IntKind.i64.wrap (u.1.2.2.2.1+(1:Int)))
 rec ((u.1.1,(u.1.2.1,(u.1.2.2.1,(v35,())))),((),()))
 else none
 else
 some (.inl ((u.1.2.2.1,()),((),())))
def L_aj_11 (x:i_aj_11.den):Option (denO o_aj_11):=Qb l_aj_11 lots x
abbrev i_aj_7:Shp:={ slots:=[(0,.s (.pd Y28)),(1,.s (.dat YI)),(5,.s (.own 88 Y38)),(7,.s (.dat YI))],boxes:=[],rows:=[] }
abbrev o_aj_7:List (Ex×Shp):=[(.exit 2,{ slots:=[(0,.s (.pd Y28)),(1,.s (.dat YI)),(5,.s (.own 88 Y38))],boxes:=[],rows:=[] })]
def l_aj_7 (rec:i_aj_7.den→Option (denO o_aj_7)) (u:i_aj_7.den):Option (denO o_aj_7):=
 if 0≤u.1.2.1 then
 ((u.1.1.1)[(u.1.2.1).toNat]?).bind fun y11=>
 let v12:=((y11.length:Nat):Int)
 if (ltI u.1.2.2.2.1 v12) then
 if 0≤u.1.2.1 then
 ((u.1.1.1)[(u.1.2.1).toNat]?).bind fun y13=>
 if 0≤u.1.2.2.2.1 then
 ((y13)[(u.1.2.2.2.1).toNat]?).bind fun y14=>
 if 0≤u.1.2.2.2.1∧u.1.2.2.2.1< ((u.1.2.2.1.length:Nat):Int) then
 ((u.1.2.2.1)[(u.1.2.2.2.1).toNat]?).bind fun y15=>
 let v16:=(u.1.2.2.1.set (u.1.2.2.2.1).toNat (y14,((7:Int),())))
 let v17:=(IntKind.i64.wrap (u.1.2.2.2.1+(1:Int)))
 rec ((u.1.1,(u.1.2.1,(v16,(v17,())))),((),()))
 else none
 else none
 else none
 else
 some (.inl ((u.1.1,(u.1.2.1,(u.1.2.2.1,()))),((),())))
 else none
def L_aj_7 (x:i_aj_7.den):Option (denO o_aj_7):=Qb l_aj_7 lots x
abbrev i_aj_3:Shp:={ slots:=[(0,.s (.pd Y28)),(1,.s (.dat YI)),(5,.s (.own 88 Y38)),(6,.s (.dat YI))],boxes:=[],rows:=[] }
abbrev o_aj_3:List (Ex×Shp):=[(.exit 0,{ slots:=[(0,.s (.pd Y28)),(1,.s (.dat YI)),(5,.s (.own 88 Y38))],boxes:=[],rows:=[] })]
def l_aj_3 (rec:i_aj_3.den→Option (denO o_aj_3)) (u:i_aj_3.den):Option (denO o_aj_3):=
 if (ltI u.1.2.2.2.1 (8:Int)) then
 (F_ai ()).bind fun r2=>
 if (u.1.2.2.1.length+[r2.1.1].length)*16≤140737488355328 then
 let v3:=(u.1.2.2.1++[r2.1.1])
 let v4:=(IntKind.i64.wrap (u.1.2.2.2.1+(1:Int)))
 rec ((u.1.1,(u.1.2.1,(v3,(v4,())))),((),()))
 else none
 else
 some (.inl ((u.1.1,(u.1.2.1,(u.1.2.2.1,()))),((),())))
def L_aj_3 (x:i_aj_3.den):Option (denO o_aj_3):=Qb l_aj_3 lots x
def F_aj (x:denP P_h):FO P_h R_aj:=
 (L_aj_3 ((x.1,(x.2.1,(([]:List (den Y38)),((0:Int),())))),((),()))).bind fun z5=>
 match z5 with
 | .inl x6=>
  (L_aj_7 ((x6.1.1,(x6.1.2.1,(x6.1.2.2.1,((0:Int),())))),((),()))).bind fun z18=>
  match z18 with
  | .inl x19=>
   (L_aj_11 ((x19.1.1,(x19.1.2.1,(x19.1.2.2.1,((0:Int),())))),((),()))).bind fun z36=>
   match z36 with
   | .inl x37=>
    some ((x37.1.1,()),())
   | .inr z36_=>
    none
  | .inr z18_=>
   none
 | .inr z5_=>
  none
abbrev C_aj:Con:=⟨P_h,R_aj,F_aj,false⟩
abbrev G_aj:Env:=[(145,C_ai)]
theorem g_aj:Be G_aj:=(Qa s_ai Qc)
abbrev c_aj_11:Cut:=⟨i_aj_11,o_aj_11,fun x=>Qb l_aj_11 lots x⟩
theorem k_aj_11:Bu 84 (.loop (nav Tryz.f100 [1,1,1,1,0,1,0,0])) c_aj_11:=
  Qd (L:=[]) hT g_aj (fun _ _=>by kernel_rfl) okP _
abbrev c_aj_7:Cut:=⟨i_aj_7,o_aj_7,fun x=>Qb l_aj_7 lots x⟩
theorem k_aj_7:Bu 84 (.loop (nav Tryz.f100 [1,1,1,0,1,0,0])) c_aj_7:=
  Qd (L:=[]) hT g_aj (fun _ _=>by kernel_rfl) okP _
abbrev c_aj_3:Cut:=⟨i_aj_3,o_aj_3,fun x=>Qb l_aj_3 lots x⟩
theorem k_aj_3:Bu 84 (.loop (nav Tryz.f100 [1,1,0,1,0,0])) c_aj_3:=
  Qd (L:=[]) hT g_aj (fun _ _=>by kernel_rfl) okP _
theorem r_aj (x):QA T G_aj [(11,c_aj_11),(7,c_aj_7),(3,c_aj_3)] Tryz.f100 C_aj.ps C_aj.rs x=C_aj.F x:=by kernel_rfl
theorem s_aj:Bc 100 C_aj:=fnC (L:=[(11,c_aj_11),(7,c_aj_7),(3,c_aj_3)]) hT g_aj Tryz.f100 (okS okP (okS okP (okS (okS okP (okB (okU k_aj_3))) (okS (okS okP (okB (okU k_aj_7))) (okS (okS okP (okB (okU k_aj_11))) okP))))) r_aj
def F_ak (x:denP P_ae):FO P_ae R_u:=
 if (([]:List (den YI)).length+x.1.length)*8≤140737488355328 then
 let v1:=(([]:List (den YI))++x.1)
 some ((v1,()),())
 else none
abbrev C_ak:Con:=⟨P_ae,R_u,F_ak,false⟩
theorem s_ak:Bc 97 C_ak:=fnE g_a Tryz.f97
abbrev P_al:List PK:=[.val Y45]
abbrev R_al:List VK:=[.g [.own 2 YI,.dat YI,.own 2 YI,.dat .bool,.dat .bool,.dat .bool,.dat YI,.own 2 YI,.own 2 YI]]
def F_al (x:denP P_al):FO P_al R_al:=
 if (([]:List (den YI)).length+x.1.1.length)*8≤140737488355328 then
 let v1:=(([]:List (den YI))++x.1.1)
 if (([]:List (den YI)).length+x.1.2.2.1.length)*8≤140737488355328 then
 let v2:=(([]:List (den YI))++x.1.2.2.1)
 if (([]:List (den YI)).length+x.1.2.2.2.2.2.2.2.1.length)*8≤140737488355328 then
 let v3:=(([]:List (den YI))++x.1.2.2.2.2.2.2.2.1)
 if (([]:List (den YI)).length+x.1.2.2.2.2.2.2.2.2.1.length)*8≤140737488355328 then
 let v4:=(([]:List (den YI))++x.1.2.2.2.2.2.2.2.2.1)
 some (((v1,(x.1.2.1,(v2,(x.1.2.2.2.1,(x.1.2.2.2.2.1,(x.1.2.2.2.2.2.1,(x.1.2.2.2.2.2.2.1,(v3,(v4,()))))))))),()),())
 else none
 else none
 else none
 else none
abbrev C_al:Con:=⟨P_al,R_al,F_al,false⟩
theorem s_al:Bc 98 C_al:=fnE g_a Tryz.f98
abbrev P_am:List PK:=[.val Y45,.val Y26,.val Y30]
abbrev R_am:List VK:=[.b [.dat Y26,.own 2 YI,.dat YI,.own 2 YI,.dat YI,.own 2 YI,.dat .bool,.dat .bool,.dat .bool,.dat YI,.dat Y30,.own 2 YI,.dat YI]]
def F_am (x:denP P_am):FO P_am R_am:=
 (F_ak (x.2.2.1,())).bind fun r1=>
 (F_al (x.1,())).bind fun r2=>
 some (((x.2.1,(r1.1.1,((-1:Int),(r2.1.1.1,(r2.1.1.2.1,(r2.1.1.2.2.1,(r2.1.1.2.2.2.1,(r2.1.1.2.2.2.2.1,(r2.1.1.2.2.2.2.2.1,(r2.1.1.2.2.2.2.2.2.1,(r2.1.1.2.2.2.2.2.2.2.1,(r2.1.1.2.2.2.2.2.2.2.2.1,((-1:Int),()))))))))))))),()),())
abbrev C_am:Con:=⟨P_am,R_am,F_am,false⟩
abbrev G_am:Env:=[(97,C_ak),(98,C_al)]
theorem g_am:Be G_am:=(Qa s_ak (Qa s_al Qc))
theorem s_am:Bc 99 C_am:=
  QsW (L:=[]) hT g_am Tryz.f99 (by kernel_rfl) (by kernel_rfl) (by kernel_rfl) okP fun _=>by kernel_rfl
abbrev P_an:List PK:=[.ptr Y45]
def F_an (x:denP P_an):FO P_an R_c:=
 ((x.1.2.2.1)[((9:Int)).toNat]?).bind fun y1=>
 if (y1 !=(0:Int))=true then
 ((x.1.2.2.1)[((9:Int)).toNat]?).bind fun y2=>
 if (leI y2 x.1.2.2.2.2.2.2.1) then
 if x.1.2.2.2.2.2.1 then
 let v3:=((x.1.2.2.2.2.2.2.2.1.length:Nat):Int)
 if (ltI (0:Int) v3) then
 some (((7:Int),()),())
 else
 some (((3:Int),()),())
 else
 let v4:=((x.1.2.2.2.2.2.2.2.1.length:Nat):Int)
 if (ltI (0:Int) v4) then
 some (((5:Int),()),())
 else
 some (((1:Int),()),())
 else
 if x.1.2.2.2.2.2.1 then
 let v5:=((x.1.2.2.2.2.2.2.2.1.length:Nat):Int)
 if (ltI (0:Int) v5) then
 some (((6:Int),()),())
 else
 some (((2:Int),()),())
 else
 let v6:=((x.1.2.2.2.2.2.2.2.1.length:Nat):Int)
 if (ltI (0:Int) v6) then
 some (((4:Int),()),())
 else
 some (((0:Int),()),())
 else
 if x.1.2.2.2.2.2.1 then
 let v7:=((x.1.2.2.2.2.2.2.2.1.length:Nat):Int)
 if (ltI (0:Int) v7) then
 some (((6:Int),()),())
 else
 some (((2:Int),()),())
 else
 let v8:=((x.1.2.2.2.2.2.2.2.1.length:Nat):Int)
 if (ltI (0:Int) v8) then
 some (((4:Int),()),())
 else
 some (((0:Int),()),())
abbrev C_an:Con:=⟨P_an,R_c,F_an,false⟩
theorem s_an:Bc 148 C_an:=fnE g_a Tryz.f148
abbrev i_ao_5:Shp:={ slots:=[(3,.s (.dat YI)),(4,.s (.dat YI))],boxes:=[],rows:=[] }
def l_ao_5 (rec:i_ao_5.den→Option (denO o_l_4)) (u:i_ao_5.den):Option (denO o_l_4):=
 if (ltI u.1.2.1 (3:Int)) then
 let v6:=(IntKind.u64.wrap u.1.2.1)
 if v6< 0 then none else
 let v7:=((u.1.1).fdiv (2 ^ (min (v6).toNat 64)))
 let v8:=(iand .i64 v7 (1:Int))
 if (v8==(1:Int)) then
 some (.inr (.inl ((u.1.2.1,()),((),()))))
 else
 let v9:=(IntKind.i64.wrap (u.1.2.1+(1:Int)))
 rec ((u.1.1,(v9,())),((),()))
 else
 some (.inl ((),((),())))
def L_ao_5 (x:i_ao_5.den):Option (denO o_l_4):=Qb l_ao_5 lots x
def F_ao (x:denP P_an):FO P_an R_c:=
 (F_an (x.1,())).bind fun r1=>
 ((x.1.2.2.1)[((7:Int)).toNat]?).bind fun y2=>
 let v3:=(iand .i64 r1.1.1 y2)
 ((x.1.2.2.1)[((0:Int)).toNat]?).bind fun y4=>
 let v5:=((y4).tmod (2:Int))
 if (v5==(0:Int)) then
 some (((-1:Int),()),())
 else
 (L_ao_5 ((v3,((0:Int),())),((),()))).bind fun z10=>
 match z10 with
 | .inl x11=>
  some (((-1:Int),()),())
 | .inr z10_=>
  match z10_ with
  | .inl x12=>
   some ((x12.1.1,()),())
  | .inr z10__=>
   none
abbrev C_ao:Con:=⟨P_an,R_c,F_ao,false⟩
abbrev G_ao:Env:=[(148,C_an)]
theorem g_ao:Be G_ao:=(Qa s_an Qc)
abbrev c_ao_5:Cut:=⟨i_ao_5,o_l_4,fun x=>Qb l_ao_5 lots x⟩
theorem k_ao_5:Bu 33 (.loop (nav Tryz.f146 [1,1,1,0,1,0,0])) c_ao_5:=
  Qd (L:=[]) hT g_ao (fun _ _=>by kernel_rfl) okP _
theorem r_ao (x):QA T G_ao [(5,c_ao_5)] Tryz.f146 C_ao.ps C_ao.rs x=C_ao.F x:=by kernel_rfl
theorem s_ao:Bc 146 C_ao:=fnC (L:=[(5,c_ao_5)]) hT g_ao Tryz.f146 (okS okP (okS okP (okS okP (okS (okS okP (okB (okU k_ao_5))) okP)))) r_ao
abbrev P_ap:List PK:=[.box [.own 2 YI,.dat YI,.own 2 YI,.dat .bool,.dat .bool,.dat .bool,.dat YI,.dat Y30,.own 2 YI] [.own 2 YI,.dat YI,.own 2 YI,.dat .bool,.dat .bool,.dat .bool,.dat YI,.dat Y30,.own 2 YI],.val YI,.val YI]
abbrev R_ap:List VK:=[]
def F_ap (x:denP P_ap):FO P_ap R_ap:=
 if 0≤(2:Int)∧(2:Int)< ((x.1.2.2.1.length:Nat):Int) then
 ((x.1.2.2.1)[((2:Int)).toNat]?).bind fun y1=>
 let v2:=(x.1.2.2.1.set ((2:Int)).toNat x.1.2.1)
 if 0≤(3:Int)∧(3:Int)< ((v2.length:Nat):Int) then
 ((v2)[((3:Int)).toNat]?).bind fun y3=>
 let v4:=(v2.set ((3:Int)).toNat x.2.1)
 if 0≤(4:Int)∧(4:Int)< ((v4.length:Nat):Int) then
 ((v4)[((4:Int)).toNat]?).bind fun y5=>
 let v6:=(v4.set ((4:Int)).toNat x.2.2.1)
 if 0≤(0:Int)∧(0:Int)< ((v6.length:Nat):Int) then
 ((v6)[((0:Int)).toNat]?).bind fun y7=>
 let v8:=((y7).tmod (2:Int))
 let v9:=(IntKind.i64.wrap (v8*(2:Int)))
 if 0≤(0:Int)∧(0:Int)< ((v6.length:Nat):Int) then
 ((v6)[((0:Int)).toNat]?).bind fun y10=>
 let v11:=(v6.set ((0:Int)).toNat v9)
 if 0≤(1:Int)∧(1:Int)< ((v11.length:Nat):Int) then
 ((v11)[((1:Int)).toNat]?).bind fun y12=>
 some ((),((x.1.1,(y12,(v11,(x.1.2.2.2.1,(false,(x.1.2.2.2.2.2.1,(x.1.2.2.2.2.2.2.1,(x.1.2.2.2.2.2.2.2.1,(x.1.2.2.2.2.2.2.2.2.1,()))))))))),()))
 else none
 else none
 else none
 else none
 else none
 else none
abbrev C_ap:Con:=⟨P_ap,R_ap,F_ap,false⟩
theorem s_ap:Bc 194 C_ap:=fnE g_a Tryz.f194
abbrev P_aq:List PK:=[.box [.dat Y26,.own 2 YI,.dat YI,.own 2 YI,.dat YI,.own 2 YI,.dat .bool,.dat .bool,.dat .bool,.dat YI,.dat Y30,.own 2 YI,.dat YI] [.dat Y26,.own 2 YI,.dat YI,.own 2 YI,.dat YI,.own 2 YI,.dat .bool,.dat .bool,.dat .bool,.dat YI,.dat Y30,.own 2 YI,.dat YI],.val YI,.val YI]
def F_aq (x:denP P_aq):FO P_aq R_ap:=
 (F_ap ((x.1.2.2.2.1,(x.1.2.2.2.2.1,(x.1.2.2.2.2.2.1,(x.1.2.2.2.2.2.2.1,(x.1.2.2.2.2.2.2.2.1,(x.1.2.2.2.2.2.2.2.2.1,(x.1.2.2.2.2.2.2.2.2.2.1,(x.1.2.2.2.2.2.2.2.2.2.2.1,(x.1.2.2.2.2.2.2.2.2.2.2.2.1,()))))))))),x.2.1,x.2.2.1,())).bind fun r1=>
 some ((),((x.1.1,(x.1.2.1,(x.1.2.2.1,(r1.2.1.1,(r1.2.1.2.1,(r1.2.1.2.2.1,(r1.2.1.2.2.2.1,(r1.2.1.2.2.2.2.1,(r1.2.1.2.2.2.2.2.1,(r1.2.1.2.2.2.2.2.2.1,(r1.2.1.2.2.2.2.2.2.2.1,(r1.2.1.2.2.2.2.2.2.2.2.1,(x.2.1,()))))))))))))),()))
abbrev C_aq:Con:=⟨P_aq,R_ap,F_aq,false⟩
theorem s_aq:Bc 147 C_aq:=fnE (Qa s_ap Qc) Tryz.f147
abbrev P_ar:List PK:=[.val Y26,.val YI,.val YI]
def F_ar (x:denP P_ar):FO P_ar R_c:=
 (F_e (x.2.1,(0:Int),(63:Int),())).bind fun r1=>
 if (!r1.1.1) then
 some (((-1:Int),()),())
 else
 let v2:=(IntKind.i64.wrap ((x.2.1).tdiv (8:Int)))
 if 0≤v2 then
 ((x.1)[(v2).toNat]?).bind fun y3=>
 if (ltI y3.1 (0:Int))=false then
 let v4:=(iand .i64 y3.2.1 x.2.2.1)
 if (v4==(0:Int)) then
 some (((-1:Int),()),())
 else
 let v5:=(IntKind.i64.wrap (y3.1*(8:Int)))
 let v6:=((x.2.1).tmod (8:Int))
 let v7:=(IntKind.i64.wrap (v5+v6))
 some ((v7,()),())
 else
 some (((-1:Int),()),())
 else none
abbrev C_ar:Con:=⟨P_ar,R_c,F_ar,false⟩
theorem s_ar:Bc 196 C_ar:=fnE (Qa s_e Qc) Tryz.f196
def F_as (x:denP P_n):FO P_n R_r:=
 let v1:=(IntKind.i64.wrap ((x.1).tdiv (8:Int)))
 let v2:=((x.1).tmod (8:Int))
 if (v2==(0:Int))=false then
 if (leI (8:Int) v1) then
 (F_ai ()).bind fun r3=>
 some ((r3.1.1,()),())
 else
 some (((v1,(v2,())),()),())
 else
 (F_ai ()).bind fun r4=>
 some ((r4.1.1,()),())
abbrev C_as:Con:=⟨P_n,R_r,F_as,false⟩
theorem s_as:Bc 264 C_as:=fnE (Qa s_ai Qc) Tryz.f264
abbrev R_at:List VK:=[.g [.dat YI,.own 88 Y38]]
abbrev i_at_5:Shp:={ slots:=[(0,.s (.dat Y30)),(2,.s (.ptr 2 0)),(3,.s (.ptr 3 0)),(4,.s (.dat YI))],boxes:=[(2,[.dat YI,.own 88 Y38]),(3,[.dat YI,.own 88 Y38])],rows:=[] }
abbrev o_at_5:List (Ex×Shp):=[(.exit 0,{ slots:=[(2,.s (.ptr 2 0)),(3,.s (.ptr 3 0))],boxes:=[(2,[.dat YI,.own 88 Y38]),(3,[.dat YI,.own 88 Y38])],rows:=[] }),(.ret,{ slots:=[(2,.s (.ptr 2 0))],boxes:=[(2,[.dat YI,.own 88 Y38])],rows:=[] })]
def l_at_5 (rec:i_at_5.den→Option (denO o_at_5)) (u:i_at_5.den):Option (denO o_at_5):=
 let v6:=((u.1.1.length:Nat):Int)
 if (ltI u.1.2.2.2.1 v6) then
 if 0≤u.1.2.2.2.1 then
 ((u.1.1)[(u.1.2.2.2.1).toNat]?).bind fun y7=>
 (F_e (y7,(0:Int),(4294967295:Int),())).bind fun r8=>
 if (!r8.1.1) then
 some (.inr (.inl (((),()),((((3:Int),(([]:List (den Y38)),())),()),()))))
 else
 if 0≤u.1.2.2.2.1 then
 ((u.1.1)[(u.1.2.2.2.1).toNat]?).bind fun y9=>
 (F_as (y9,())).bind fun r10=>
 if (u.2.1.2.1.2.1.length+[r10.1.1].length)*16≤140737488355328 then
 let v11:=(u.2.1.2.1.2.1++[r10.1.1])
 let v12:=(IntKind.i64.wrap (u.1.2.2.2.1+(1:Int)))
 rec ((u.1.1,((),((),(v12,())))),((u.2.1.1,((u.2.1.2.1.1,(v11,())),())),()))
 else none
 else none
 else none
 else
 some (.inl (((),((),())),((u.2.1.1,(u.2.1.2.1,())),())))
def L_at_5 (x:i_at_5.den):Option (denO o_at_5):=Qb l_at_5 lots x
def F_at (x:denP P_ae):FO P_ae R_at:=
 let v1:=((x.1.length:Nat):Int)
 if (v1 !=(8:Int)) then
 some ((((1:Int),(([]:List (den Y38)),())),()),())
 else
 (L_at_5 ((x.1,((),((),((0:Int),())))),((((0:Int),(([]:List (den Y38)),())),(((0:Int),(([]:List (den Y38)),())),())),()))).bind fun z13=>
 match z13 with
 | .inl x14=>
  some ((x14.2.1.2.1,()),())
 | .inr z13_=>
  match z13_ with
  | .inl x15=>
   some ((x15.2.1.1,()),())
  | .inr z13__=>
   none
abbrev C_at:Con:=⟨P_ae,R_at,F_at,false⟩
abbrev G_at:Env:=[(94,C_e),(264,C_as)]
theorem g_at:Be G_at:=(Qa s_e (Qa s_as Qc))
abbrev c_at_5:Cut:=⟨i_at_5,o_at_5,fun x=>Qb l_at_5 lots x⟩
theorem k_at_5:Bu 34 (.loop (nav Tryz.f241 [1,1,1,0,1,0,0])) c_at_5:=
  Qd (L:=[]) hT g_at (fun _ _=>by kernel_rfl) okP _
theorem r_at (x):QA T G_at [(5,c_at_5)] Tryz.f241 C_at.ps C_at.rs x=C_at.F x:=by kernel_rfl
theorem s_at:Bc 241 C_at:=fnC (L:=[(5,c_at_5)]) hT g_at Tryz.f241 (okS okP (okS okP (okS okP (okS (okS okP (okB (okU k_at_5))) okP)))) r_at
abbrev P_au:List PK:=[.ptr Y152]
abbrev R_au:List VK:=[.s (.own 88 Y38),.s (.dat .bool)]
abbrev i_au_5:Shp:={ slots:=[(5,.s (.own 88 Y38)),(6,.s (.dat YI))],boxes:=[],rows:=[] }
abbrev o_au_5:List (Ex×Shp):=[(.exit 0,{ slots:=[(5,.s (.own 88 Y38))],boxes:=[],rows:=[] })]
def l_au_5 (rec:i_au_5.den→Option (denO o_au_5)) (u:i_au_5.den):Option (denO o_au_5):=
 if (ltI u.1.2.1 (8:Int)) then
 if (u.1.1.length+[(u.1.2.1,((7:Int),()))].length)*16≤140737488355328 then
 let v2:=(u.1.1++[(u.1.2.1,((7:Int),()))])
 let v3:=(IntKind.i64.wrap (u.1.2.1+(1:Int)))
 rec ((v2,(v3,())),((),()))
 else none
 else
 some (.inl ((u.1.1,()),((),())))
def L_au_5 (x:i_au_5.den):Option (denO o_au_5):=Qb l_au_5 lots x
def F_au (x:denP P_au):FO P_au R_au:=
 ((x.1.2.2.2.1.2.2.1)[((10:Int)).toNat]?).bind fun y1=>
 if (y1==(0:Int)) then
 (L_au_5 ((([]:List (den Y38)),((0:Int),())),((),()))).bind fun z4=>
 match z4 with
 | .inl x5=>
  some ((x5.1.1,true,()),())
 | .inr z4_=>
  none
 else
 let v6:=(IntKind.i64.wrap (y1-(1:Int)))
 let v7:=(IntKind.i64.wrap (v6*(8:Int)))
 (F_ar (x.1.1,v7,(1:Int),())).bind fun r8=>
 if (y1==(8:Int))=false then
 if (ltI r8.1.1 (0:Int)) then
 some ((([]:List (den Y38)),false,()),())
 else
 let v9:=(IntKind.i64.wrap (r8.1.1+(8:Int)))
 if 0≤r8.1.1∧r8.1.1≤v9∧v9≤((x.1.2.1.length:Nat):Int) then
 let v10:=((x.1.2.1.drop (r8.1.1).toNat).take ((v9).toNat-(r8.1.1).toNat))
 (F_at (v10,())).bind fun r11=>
 some ((r11.1.1.2.1,true,()),())
 else none
 else
 some ((([]:List (den Y38)),false,()),())
abbrev C_au:Con:=⟨P_au,R_au,F_au,false⟩
abbrev G_au:Env:=[(196,C_ar),(241,C_at)]
theorem g_au:Be G_au:=(Qa s_ar (Qa s_at Qc))
abbrev c_au_5:Cut:=⟨i_au_5,o_au_5,fun x=>Qb l_au_5 lots x⟩
theorem k_au_5:Bu 52 (.loop (nav Tryz.f195 [1,1,0,1,0,1,0,1,0,0])) c_au_5:=
  Qd (L:=[]) hT g_au (fun _ _=>by kernel_rfl) okP _
theorem r_au (x):QA T G_au [(5,c_au_5)] Tryz.f195 C_au.ps C_au.rs x=C_au.F x:=by kernel_rfl
theorem s_au:Bc 195 C_au:=fnC (L:=[(5,c_au_5)]) hT g_au Tryz.f195 (okS okP (okS okP (okS (okS okP (okI (okS okP (okS (okS okP (okB (okU k_au_5))) okP)) okP)) okP))) r_au
end Go.Proofs.YtkkljegcnnfanaaGreatDoor
