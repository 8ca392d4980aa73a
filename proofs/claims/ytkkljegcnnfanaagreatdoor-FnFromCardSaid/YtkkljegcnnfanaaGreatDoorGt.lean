/- The table of the types that the laws' functions use. -/
import Derived.Test.YtkkljegcnnfanaaGreatDoorProg
import Derived.Test.YtkkljegcnnfanaaGreatDoorS5
import Derived.WalkKit
set_option linter.unusedVariables false
set_option linter.unusedSimpArgs false
namespace Go.Proofs.YtkkljegcnnfanaaGreatDoor
open Go Go.RowKit S Go.Proofs
abbrev FO (P:List PK) (R:List VK):=Option (denV R×denQ P)
set_option maxRecDepth 100000
abbrev YI:Ty:=(.int .i64)
abbrev Y22:Ty:=(.slice (.int .u8))
abbrev Y30:Ty:=(.slice YI)
abbrev Y24:Ty:=(.slice Y30)
abbrev Y13:Ty:=(.pair .str (.pair (.int .u64) .unit))
abbrev Y38:Ty:=(.pair YI (.pair YI .unit))
abbrev Y26:Ty:=(.slice Y38)
abbrev Y40:Ty:=(.pair YI (.pair Y30 .unit))
abbrev Y133:Ty:=(.pair Y22 (.pair YI .unit))
abbrev Y59:Ty:=(.pair YI (.pair YI (.pair .bool .unit)))
abbrev Y7:Ty:=(.pair YI (.pair YI (.pair .bool (.pair (.int .u8) .unit))))
abbrev Y186:Ty:=(.pair YI (.pair YI Y38))
abbrev Y254:Ty:=(.pair YI (.pair Y26 .unit))
abbrev Y122:Ty:=(.pair YI Y186)
abbrev Y25:Ty:=(.slice Y122)
abbrev Y223:Ty:=(.pair YI (.pair Y186 .unit))
abbrev Y45:Ty:=(.pair Y30 (.pair YI (.pair Y30 (.pair .bool (.pair .bool (.pair .bool (.pair YI (.pair Y30 (.pair Y30 .unit)))))))))
abbrev Y31:Ty:=(.slice Y45)
abbrev Y104:Ty:=(.pair YI (.pair Y45 .unit))
abbrev Y47:Ty:=(.pair Y45 (.pair Y30 (.pair Y30 .unit)))
abbrev Y28:Ty:=(.pair Y24 (.pair Y25 (.pair Y26 (.pair Y26 .unit))))
abbrev Y138:Ty:=(.pair YI (.pair YI (.pair YI (.pair Y45 (.pair Y30 .unit)))))
abbrev Y49:Ty:=(.pair YI (.pair Y47 .unit))
abbrev Y66:Ty:=(.pair Y45 (.pair Y26 (.pair Y30 .unit)))
abbrev Y68:Ty:=(.pair YI (.pair Y66 .unit))
abbrev Y152:Ty:=(.pair Y26 (.pair Y30 (.pair YI (.pair Y45 (.pair YI .unit)))))
abbrev Y181:Ty:=(.pair Y45 (.pair Y26 (.pair Y30 Y38)))
abbrev Y32:Ty:=(.pair Y28 (.pair Y30 (.pair Y31 (.pair YI Y38))))
abbrev Y164:Ty:=(.slice Y32)
abbrev Y35:Ty:=(.pair YI (.pair Y32 .unit))
def T:Tab:=[(2,⟨YI,[],0,8,0⟩),
  (3,⟨YI,[],0,8,0⟩),
  (4,⟨.bool,[(208,2)],0,1,0⟩),
  (5,⟨(.int .u8),[],0,1,0⟩),
  (6,⟨(.int .u8),[],0,1,0⟩),
  (7,⟨Y7,[(0,2),(1,3),(2,4),(3,6)],0,24,0⟩),
  (8,⟨Y7,[(0,2),(1,3),(2,4),(3,6)],0,24,0⟩),
  (9,⟨.str,[],0,16,0⟩),
  (10,⟨.str,[],0,16,0⟩),
  (11,⟨.str,[],0,16,0⟩),
  (12,⟨(.int .u64),[],0,8,0⟩),
  (13,⟨Y13,[(0,9),(1,12)],0,24,0⟩),
  (14,⟨Y13,[(0,9),(1,12)],0,24,0⟩),
  (21,⟨(.int .i32),[],0,4,0⟩),
  (22,⟨Y22,[],5,24,0⟩),
  (24,⟨Y24,[],30,24,3000030⟩),
  (25,⟨Y25,[],123,24,0⟩),
  (26,⟨Y26,[],53,24,0⟩),
  (27,⟨Y26,[],39,24,0⟩),
  (28,⟨Y28,[(0,24),(1,25),(2,26),(3,27)],0,96,0⟩),
  (29,⟨Y28,[(0,24),(1,25),(2,26),(3,27)],0,96,0⟩),
  (30,⟨Y30,[],2,24,0⟩),
  (31,⟨Y31,[],46,24,3000046⟩),
  (32,⟨Y32,[(0,29),(4,30),(5,31),(6,2),(7,2),(8,2)],0,168,0⟩),
  (33,⟨Y32,[(0,29),(4,30),(5,31),(6,2),(7,2),(8,2)],0,168,0⟩),
  (35,⟨Y35,[(0,2),(1,33)],0,176,0⟩),
  (36,⟨Y35,[(0,2),(1,33)],0,176,0⟩),
  (38,⟨Y38,[(0,2),(1,2)],0,16,0⟩),
  (39,⟨Y38,[(0,2),(1,2)],0,16,0⟩),
  (40,⟨Y40,[(0,2),(1,30)],0,32,0⟩),
  (41,⟨Y40,[(0,2),(1,30)],0,32,0⟩),
  (45,⟨Y45,[(0,30),(1,2),(2,30),(3,4),(4,4),(5,4),(6,2),(7,30),(8,30)],0,120,0⟩),
  (46,⟨Y45,[(0,30),(1,2),(2,30),(3,4),(4,4),(5,4),(6,2),(7,30),(8,30)],0,120,0⟩),
  (47,⟨Y47,[(0,46),(9,30),(10,30)],0,168,0⟩),
  (48,⟨Y47,[(0,46),(9,30),(10,30)],0,168,0⟩),
  (49,⟨Y49,[(0,2),(1,48)],0,176,0⟩),
  (50,⟨Y49,[(0,2),(1,48)],0,176,0⟩),
  (52,⟨Y38,[(0,2),(1,2)],0,16,0⟩),
  (53,⟨Y38,[(0,2),(1,2)],1,16,0⟩),
  (59,⟨Y59,[(0,2),(1,2),(2,4)],0,24,0⟩),
  (60,⟨Y59,[(0,2),(1,2),(2,4)],0,24,0⟩),
  (65,⟨Y26,[],88,24,0⟩),
  (66,⟨Y66,[(0,46),(9,65),(10,30)],0,168,0⟩),
  (67,⟨Y66,[(0,46),(9,65),(10,30)],0,168,0⟩),
  (68,⟨Y68,[(0,2),(1,67)],0,176,0⟩),
  (69,⟨Y68,[(0,2),(1,67)],0,176,0⟩),
  (74,⟨Y38,[(0,2),(1,2)],0,16,0⟩),
  (75,⟨Y38,[(0,2),(1,2)],0,16,0⟩),
  (87,⟨Y38,[(0,2),(1,2)],0,16,0⟩),
  (88,⟨Y38,[(0,2),(1,2)],0,16,0⟩),
  (104,⟨Y104,[(0,2),(1,46)],0,128,0⟩),
  (105,⟨Y104,[(0,2),(1,46)],0,128,0⟩),
  (108,⟨.opq,[],0,8,0⟩),
  (122,⟨Y122,[(0,2),(1,2),(2,2),(3,2),(4,2)],0,40,0⟩),
  (123,⟨Y122,[(0,2),(1,2),(2,2),(3,2),(4,2)],0,40,0⟩),
  (133,⟨Y133,[(0,22),(1,2)],0,32,0⟩),
  (134,⟨Y133,[(0,22),(1,2)],0,32,0⟩),
  (138,⟨Y138,[(0,2),(1,2),(2,2),(3,46),(12,30)],0,168,0⟩),
  (139,⟨Y138,[(0,2),(1,2),(2,2),(3,46),(12,30)],0,168,0⟩),
  (152,⟨Y152,[(0,65),(1,30),(2,2),(3,46),(12,2)],0,184,0⟩),
  (153,⟨Y152,[(0,65),(1,30),(2,2),(3,46),(12,2)],0,184,0⟩),
  (159,⟨(.int .u64),[],0,8,0⟩),
  (164,⟨Y164,[],33,24,0⟩),
  (174,⟨Y40,[(0,2),(1,30)],0,32,0⟩),
  (175,⟨Y40,[(0,2),(1,30)],0,32,0⟩),
  (181,⟨Y181,[(0,46),(9,65),(10,30),(11,2),(12,2)],0,184,0⟩),
  (182,⟨Y181,[(0,46),(9,65),(10,30),(11,2),(12,2)],0,184,0⟩),
  (186,⟨Y186,[(0,2),(1,2),(2,2),(3,2)],0,32,0⟩),
  (187,⟨Y186,[(0,2),(1,2),(2,2),(3,2)],0,32,0⟩),
  (195,⟨YI,[],0,8,0⟩),
  (204,⟨(.int .u32),[],0,4,0⟩),
  (206,⟨(.int .u64),[],0,8,0⟩),
  (223,⟨Y223,[(0,2),(1,187)],0,40,0⟩),
  (224,⟨Y223,[(0,2),(1,187)],0,40,0⟩),
  (241,⟨(.int .u64),[],0,8,0⟩),
  (254,⟨Y254,[(0,2),(1,65)],0,32,0⟩),
  (255,⟨Y254,[(0,2),(1,65)],0,32,0⟩),
  (264,⟨(.int .i16),[],0,2,0⟩),
  (265,⟨(.int .u16),[],0,2,0⟩),
  (281,⟨(.int .u8),[],0,1,0⟩)]
theorem hT:QR Tryz.prog T=true:=by kernel_rfl
theorem hS:Qss T=true:=by kernel_rfl
def TD:Tab:=(24,⟨Y24,[],30,24,1000003000030⟩)::T
theorem hTD:QR Tryz.prog TD=true:=by kernel_rfl
abbrev Bc (f:FuncId) (c:Con):Prop:=Qdu Tryz.prog f c
abbrev Be (G:Env):Prop:=Qci Tryz.prog G
abbrev Bu (n:Nat) (c:Code) (d:Cut):Prop:=QgN Tryz.prog n c d
theorem fnE {G:Env} (hG:Be G) {f:FuncId} (fn:Func) {cn:Con} (hc:QbT [] (nav fn [])=true:=by kernel_rfl) (hF:∀x,QA T G [] fn cn.ps cn.rs x=cn.F x:=by intro _;kernel_rfl) (hf:Tryz.prog.funcs[f]?=some fn:=by kernel_rfl) (hn:(fn.name=="runtime.NumGoroutine")=false:=by kernel_rfl) (hb:fn.body.isSome=true:=by kernel_rfl):Bc f cn:=fnC (L := []) hT hG fn (okP hc) hF hf hn hb
end Go.Proofs.YtkkljegcnnfanaaGreatDoor
