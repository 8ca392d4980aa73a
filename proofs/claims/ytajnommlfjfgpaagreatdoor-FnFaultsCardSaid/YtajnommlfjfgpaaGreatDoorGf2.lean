/- The functions of the laws, each as a plain function of data (F), and that the program's text does what F says. Printed by a program (wip/tools/gen.py). -/
import Derived.Test.YtajnommlfjfgpaaGreatDoorGf1
namespace Go.Proofs.YtajnommlfjfgpaaGreatDoor
open Go Go.RowKit S Go.Proofs
set_option maxRecDepth 100000
set_option linter.unusedVariables false
/-! (*impl.Hart).pending -/
abbrev P_ar : List PK := [.ptr Y25]
abbrev R_ar : List VK := [.s (.dat YI)]
def F_ar (x : denP P_ar) : Option (denV R_ar × denQ P_ar) :=
 ((x.1.2.2.1)[((9 : Int)).toNat]?).bind fun y1 =>
 if (y1 != (0 : Int)) = true then
 ((x.1.2.2.1)[((9 : Int)).toNat]?).bind fun y2 =>
 if (leI y2 x.1.2.2.2.2.2.2.1) then
  let v3 := (ior .i64 (0 : Int) (1 : Int))
  if x.1.2.2.2.2.2.1 then
  let v4 := (ior .i64 v3 (2 : Int))
  let v5 := ((x.1.2.2.2.2.2.2.2.1.length : Nat) : Int)
  if (ltI (0 : Int) v5) then
   let v6 := (ior .i64 v4 (4 : Int))
   some ((v6, ()), ())
  else
   some ((v4, ()), ())
  else
  let v7 := ((x.1.2.2.2.2.2.2.2.1.length : Nat) : Int)
  if (ltI (0 : Int) v7) then
   let v8 := (ior .i64 v3 (4 : Int))
   some ((v8, ()), ())
  else
   some ((v3, ()), ())
 else
  if x.1.2.2.2.2.2.1 then
  let v9 := (ior .i64 (0 : Int) (2 : Int))
  let v10 := ((x.1.2.2.2.2.2.2.2.1.length : Nat) : Int)
  if (ltI (0 : Int) v10) then
   let v11 := (ior .i64 v9 (4 : Int))
   some ((v11, ()), ())
  else
   some ((v9, ()), ())
  else
  let v12 := ((x.1.2.2.2.2.2.2.2.1.length : Nat) : Int)
  if (ltI (0 : Int) v12) then
   let v13 := (ior .i64 (0 : Int) (4 : Int))
   some ((v13, ()), ())
  else
   some (((0 : Int), ()), ())
 else
 if x.1.2.2.2.2.2.1 then
  let v14 := (ior .i64 (0 : Int) (2 : Int))
  let v15 := ((x.1.2.2.2.2.2.2.2.1.length : Nat) : Int)
  if (ltI (0 : Int) v15) then
  let v16 := (ior .i64 v14 (4 : Int))
  some ((v16, ()), ())
  else
  some ((v14, ()), ())
 else
  let v17 := ((x.1.2.2.2.2.2.2.2.1.length : Nat) : Int)
  if (ltI (0 : Int) v17) then
  let v18 := (ior .i64 (0 : Int) (4 : Int))
  some ((v18, ()), ())
  else
  some (((0 : Int), ()), ())
abbrev C_ar : Con := ⟨P_ar, R_ar, F_ar, false⟩
abbrev G_ar : Env := []
theorem g_ar : EnvOk Tryz.prog G_ar := env_nil
theorem r_ar (x) : runFn T G_ar [] Tryz.f158 P_ar R_ar x = F_ar x := by kernel_rfl
theorem s_ar : CallsOk Tryz.prog 158 C_ar :=
 fn_calls (L := []) hT g_ar Tryz.f158 (by kernel_rfl) (by kernel_rfl) (by kernel_rfl) (plain_ok (by kernel_rfl)) r_ar
/-! math/bits.TrailingZeros64 -/
abbrev P_as : List PK := [.val (.int .u64)]
abbrev R_as : List VK := [.s (.dat YI)]
def tzF (n : Int) : Option Int := if n = 1 ∨ n = 3 ∨ n = 5 ∨ n = 7 then some 0 else if n = 2 ∨ n = 6 then some 1 else if n = 4 then some 2 else none
def F_as (x : denP P_as) : Option (denV R_as × denQ P_as) := match tzF x.1 with | some z => some ((z, ()), ()) | none => none
abbrev C_as : Con := ⟨P_as, R_as, F_as, false⟩
theorem w_as (n : Int) (k : Nat) (z : Int) (hn : (n == 0) = false) (w : World) (hr : 0 ≤ IntKind.u64.wrap (bits BinOp.and IntKind.u64 n (IntKind.u64.wrap (-n)) * 285870213051353865) / 288230376151711744 ∧ IntKind.u64.wrap (bits BinOp.and IntKind.u64 n (IntKind.u64.wrap (-n)) * 285870213051353865) / 288230376151711744 < 64)
  (he : (IntKind.u64.wrap (bits BinOp.and IntKind.u64 n (IntKind.u64.wrap (-n)) * 285870213051353865) / 288230376151711744).toNat = k)
  (h : w.cell? { block := 0, off := k } = some (.int .u8 z)) (hz : IntKind.i64.wrap z = z) : Calls Tryz.prog 159 #[.int .u64 n] w fun e' w' => e' = .returned (.int .i64 z) ∧ w' = w := by
 go_enter Tryz.func159, Tryz.ntmps159
 go_wp2
 all_goals first | (go_ret; exact ⟨rfl, rfl⟩) | exact absurd hr ‹¬ _› | simp_all
theorem v_as {n z : Int} (h : tzF n = some z) {M : Nat → Nat → Prop} {w : World} (hl : Laid M w) : Calls Tryz.prog 159 #[.int .u64 n] w fun e' w' => e' = .returned (.int .i64 z) ∧ w' = w := by
 have hg : ∀ i v, (0, i, v) ∈ GL → w.cell? { block := 0, off := i } = some v := by
  intro i v hm
  obtain ⟨⟨c, e, fz, h1, h2⟩, _⟩ := hl _ hm
  simp only at h1 h2
  simp [World.cell?, h1, h2]
 have g0 := hg 0 (.int .u8 0) (by simp [GL])
 have g1 := hg 1 (.int .u8 1) (by simp [GL])
 have g3 := hg 3 (.int .u8 2) (by simp [GL])
 have key : ((n = 1 ∨ n = 3 ∨ n = 5 ∨ n = 7) ∧ z = 0) ∨ ((n = 2 ∨ n = 6) ∧ z = 1) ∨ (n = 4 ∧ z = 2) := by
  unfold tzF at h
  split at h
  ·exact .inl ⟨‹_›, (Option.some.inj h).symm⟩
  ·split at h
   ·exact .inr (.inl ⟨‹_›, (Option.some.inj h).symm⟩)
   ·split at h
    ·exact .inr (.inr ⟨‹_›, (Option.some.inj h).symm⟩)
    ·cases h
 clear h
 rcases key with ⟨h | h | h | h, rfl⟩ | ⟨h | h, rfl⟩ | ⟨h, rfl⟩ <;> subst h
 all_goals first
  | exact w_as _ 0 _ (by decide) w (by decide +kernel) (by decide +kernel) g0 (by decide +kernel)
  | exact w_as _ 1 _ (by decide) w (by decide +kernel) (by decide +kernel) g1 (by decide +kernel)
  | exact w_as _ 3 _ (by decide) w (by decide +kernel) (by decide +kernel) g3 (by decide +kernel)
theorem u_as : Sound Tryz.prog 159 C_as := by
 intro x y hx w args S Q B M F hp ha _
 obtain ⟨v, vs', rfl, ⟨cs, h1, h2⟩, rfl, rfl⟩ := ha
 have e1 : v = .int .u64 x.1 := by
  have h1 : cs = [v] := h1
  subst h1
  simpa [Rp] using h2
 subst e1
 have hx : F_as x = some y := hx
 unfold F_as at hx
 split at hx
 ·rename_i z hz
  obtain rfl := Option.some.inj hx
  refine (v_as hz hp.laid).mono fun r w' h => ?_
  obtain ⟨rfl, rfl⟩ := h
  refine ⟨_, rfl, Kept.refl M w', [.int .i64 z], [], [], rfl, ⟨_, [], [], [], rfl, rfl, ⟨⟨[.int .i64 z], rfl, rfl⟩, rfl⟩, rfl, rfl⟩, ⟨_, [], rfl, rfl, rfl⟩, List.nodup_nil, fun b hb => by cases hb⟩
 ·cases hx
theorem s_as : CallsOk Tryz.prog 159 C_as := (u_as).ok (enter_ok Tryz.func159 (by decide +kernel) (by kernel_rfl))
/-! (*impl.Hart).due -/
abbrev P_at : List PK := [.ptr Y25]
abbrev R_at : List VK := [.s (.dat YI)]
def F_at (x : denP P_at) : Option (denV R_at × denQ P_at) :=
 (F_ar (x.1, ())).bind fun r1 =>
 ((x.1.2.2.1)[((7 : Int)).toNat]?).bind fun y2 =>
 let v3 := (iand .i64 r1.1.1 y2)
 ((x.1.2.2.1)[((0 : Int)).toNat]?).bind fun y4 =>
 let v5 := ((y4).tmod (2 : Int))
 if (v5 == (0 : Int)) = false then
 if (v3 == (0 : Int)) then
  some (((-1 : Int), ()), ())
 else
  let v6 := (IntKind.u64.wrap v3)
  (F_as (v6, ())).bind fun r7 =>
  some ((r7.1.1, ()), ())
 else
 some (((-1 : Int), ()), ())
abbrev C_at : Con := ⟨P_at, R_at, F_at, false⟩
abbrev G_at : Env := [(158, C_ar), (159, C_as)]
theorem g_at : EnvOk Tryz.prog G_at := (env_cons s_ar (env_cons s_as env_nil))
theorem r_at (x) : runFn T G_at [] Tryz.f67 P_at R_at x = F_at x := by kernel_rfl
theorem s_at : CallsOk Tryz.prog 67 C_at :=
 fn_calls (L := []) hT g_at Tryz.f67 (by kernel_rfl) (by kernel_rfl) (by kernel_rfl) (plain_ok (by kernel_rfl)) r_at
/-! (*impl.Hart).trap -/
abbrev P_au : List PK := [.box [.own 2 YI, .dat YI, .own 2 YI, .dat .bool, .dat .bool, .dat .bool, .dat YI, .own 2 YI, .own 2 YI] [.own 2 YI, .dat YI, .own 2 YI, .dat .bool, .dat .bool, .dat .bool, .dat YI, .own 2 YI, .own 2 YI], .val YI, .val YI]
abbrev R_au : List VK := []
def F_au (x : denP P_au) : Option (denV R_au × denQ P_au) :=
 if 0 ≤ (2 : Int) ∧ (2 : Int) < ((x.1.2.2.1.length : Nat) : Int) then
 ((x.1.2.2.1)[((2 : Int)).toNat]?).bind fun y1 =>
 let v2 := (x.1.2.2.1.set ((2 : Int)).toNat x.1.2.1)
 if 0 ≤ (3 : Int) ∧ (3 : Int) < ((v2.length : Nat) : Int) then
  ((v2)[((3 : Int)).toNat]?).bind fun y3 =>
  let v4 := (v2.set ((3 : Int)).toNat x.2.1)
  if 0 ≤ (4 : Int) ∧ (4 : Int) < ((v4.length : Nat) : Int) then
  ((v4)[((4 : Int)).toNat]?).bind fun y5 =>
  let v6 := (v4.set ((4 : Int)).toNat x.2.2.1)
  if 0 ≤ (0 : Int) ∧ (0 : Int) < ((v6.length : Nat) : Int) then
   ((v6)[((0 : Int)).toNat]?).bind fun y7 =>
   let v8 := ((y7).tmod (2 : Int))
   let v9 := (IntKind.i64.wrap (v8 * (2 : Int)))
   if 0 ≤ (0 : Int) ∧ (0 : Int) < ((v6.length : Nat) : Int) then
   ((v6)[((0 : Int)).toNat]?).bind fun y10 =>
   let v11 := (v6.set ((0 : Int)).toNat v9)
   if 0 ≤ (1 : Int) ∧ (1 : Int) < ((v11.length : Nat) : Int) then
    ((v11)[((1 : Int)).toNat]?).bind fun y12 =>
    some ((), ((x.1.1, (y12, (v11, (x.1.2.2.2.1, (false, (x.1.2.2.2.2.2.1, (x.1.2.2.2.2.2.2.1, (x.1.2.2.2.2.2.2.2.1, (x.1.2.2.2.2.2.2.2.2.1, ()))))))))), ()))
   else none
   else none
  else none
  else none
 else none
 else none
abbrev C_au : Con := ⟨P_au, R_au, F_au, false⟩
abbrev G_au : Env := []
theorem g_au : EnvOk Tryz.prog G_au := env_nil
theorem r_au (x) : runFn T G_au [] Tryz.f261 P_au R_au x = F_au x := by kernel_rfl
theorem s_au : CallsOk Tryz.prog 261 C_au :=
 fn_calls (L := []) hT g_au Tryz.f261 (by kernel_rfl) (by kernel_rfl) (by kernel_rfl) (plain_ok (by kernel_rfl)) r_au
/-! (*impl.core).fail -/
abbrev P_av : List PK := [.box [.own 2 YI, .dat YI, .own 2 YI, .dat .bool, .dat .bool, .dat .bool, .dat YI, .own 2 YI, .own 2 YI, .dat Y27, .own 2 YI, .dat YI, .dat YI] [.own 2 YI, .dat YI, .own 2 YI, .dat .bool, .dat .bool, .dat .bool, .dat YI, .own 2 YI, .own 2 YI, .dat Y27, .own 2 YI, .dat YI, .dat YI], .val YI, .val YI]
abbrev R_av : List VK := []
def F_av (x : denP P_av) : Option (denV R_av × denQ P_av) :=
 (F_au ((x.1.1, (x.1.2.1, (x.1.2.2.1, (x.1.2.2.2.1, (x.1.2.2.2.2.1, (x.1.2.2.2.2.2.1, (x.1.2.2.2.2.2.2.1, (x.1.2.2.2.2.2.2.2.1, (x.1.2.2.2.2.2.2.2.2.1, ()))))))))), x.2.1, x.2.2.1, ())).bind fun r1 =>
 some ((), ((r1.2.1.1, (r1.2.1.2.1, (r1.2.1.2.2.1, (r1.2.1.2.2.2.1, (r1.2.1.2.2.2.2.1, (r1.2.1.2.2.2.2.2.1, (r1.2.1.2.2.2.2.2.2.1, (r1.2.1.2.2.2.2.2.2.2.1, (r1.2.1.2.2.2.2.2.2.2.2.1, (x.1.2.2.2.2.2.2.2.2.2.1, (x.1.2.2.2.2.2.2.2.2.2.2.1, (x.2.1, (x.1.2.2.2.2.2.2.2.2.2.2.2.2.1, ()))))))))))))), ()))
abbrev C_av : Con := ⟨P_av, R_av, F_av, false⟩
abbrev G_av : Env := [(261, C_au)]
theorem g_av : EnvOk Tryz.prog G_av := (env_cons s_au env_nil)
theorem r_av (x) : runFn T G_av [] Tryz.f215 P_av R_av x = F_av x := by kernel_rfl
theorem s_av : CallsOk Tryz.prog 215 C_av :=
 fn_calls (L := []) hT g_av Tryz.f215 (by kernel_rfl) (by kernel_rfl) (by kernel_rfl) (plain_ok (by kernel_rfl)) r_av
/-! impl.WrapWord -/
abbrev P_bh : List PK := [.val YI]
abbrev R_bh : List VK := [.s (.dat YI)]
def F_bh (x : denP P_bh) : Option (denV R_bh × denQ P_bh) :=
 let v1 := (iand .i64 x.1 (4294967295 : Int))
 some ((v1, ()), ())
abbrev C_bh : Con := ⟨P_bh, R_bh, F_bh, false⟩
abbrev G_bh : Env := []
theorem g_bh : EnvOk Tryz.prog G_bh := env_nil
theorem r_bh (x) : runFn T G_bh [] Tryz.f70 P_bh R_bh x = F_bh x := by kernel_rfl
theorem s_bh : CallsOk Tryz.prog 70 C_bh :=
 fn_calls (L := []) hT g_bh Tryz.f70 (by kernel_rfl) (by kernel_rfl) (by kernel_rfl) (plain_ok (by kernel_rfl)) r_bh
/-! impl.AddWords -/
abbrev P_bi : List PK := [.val YI, .val YI]
abbrev R_bi : List VK := [.s (.dat YI)]
def F_bi (x : denP P_bi) : Option (denV R_bi × denQ P_bi) :=
 (F_bh (x.1, ())).bind fun r1 =>
 (F_bh (x.2.1, ())).bind fun r2 =>
 let v3 := (IntKind.i64.wrap (r1.1.1 + r2.1.1))
 (F_bh (v3, ())).bind fun r4 =>
 some ((r4.1.1, ()), ())
abbrev C_bi : Con := ⟨P_bi, R_bi, F_bi, false⟩
abbrev G_bi : Env := [(70, C_bh)]
theorem g_bi : EnvOk Tryz.prog G_bi := (env_cons s_bh env_nil)
theorem r_bi (x) : runFn T G_bi [] Tryz.f27 P_bi R_bi x = F_bi x := by kernel_rfl
theorem s_bi : CallsOk Tryz.prog 27 C_bi :=
 fn_calls (L := []) hT g_bi Tryz.f27 (by kernel_rfl) (by kernel_rfl) (by kernel_rfl) (plain_ok (by kernel_rfl)) r_bi
/-! impl.OffsetOf -/
abbrev P_bj : List PK := [.val YI]
abbrev R_bj : List VK := [.s (.dat YI)]
def F_bj (x : denP P_bj) : Option (denV R_bj × denQ P_bj) :=
 let v1 := (iand .i64 x.1 (65535 : Int))
 if (leI (32768 : Int) v1) then
 let v2 := (IntKind.i64.wrap (v1 - (65536 : Int)))
 some ((v2, ()), ())
 else
 some ((v1, ()), ())
abbrev C_bj : Con := ⟨P_bj, R_bj, F_bj, false⟩
abbrev G_bj : Env := []
theorem g_bj : EnvOk Tryz.prog G_bj := env_nil
theorem r_bj (x) : runFn T G_bj [] Tryz.f28 P_bj R_bj x = F_bj x := by kernel_rfl
theorem s_bj : CallsOk Tryz.prog 28 C_bj :=
 fn_calls (L := []) hT g_bj Tryz.f28 (by kernel_rfl) (by kernel_rfl) (by kernel_rfl) (plain_ok (by kernel_rfl)) r_bj
/-! (*impl.Hart).readDevice -/
abbrev P_bk : List PK := [.box [.own 2 YI, .dat YI, .own 2 YI, .dat .bool, .dat .bool, .dat .bool, .dat YI, .own 2 YI, .own 2 YI] [.own 2 YI, .dat YI, .own 2 YI, .dat .bool, .dat .bool, .dat .bool, .dat YI, .own 2 YI, .own 2 YI], .val YI]
abbrev R_bk : List VK := [.s (.dat YI)]
def F_bk (x : denP P_bk) : Option (denV R_bk × denQ P_bk) :=
 if (x.2.1 == (1 : Int)) then
 let v1 := ((x.1.2.2.2.2.2.2.2.1.length : Nat) : Int)
 if (ltI (0 : Int) v1) then
  if 0 ≤ (0 : Int) ∧ (0 : Int) < ((x.1.2.2.2.2.2.2.2.1.length : Nat) : Int) then
  ((x.1.2.2.2.2.2.2.2.1)[((0 : Int)).toNat]?).bind fun y2 =>
  if 0 ≤ (1 : Int) ∧ (1 : Int) ≤ ((x.1.2.2.2.2.2.2.2.1.length : Nat) : Int) ∧ ((x.1.2.2.2.2.2.2.2.1.length : Nat) : Int) ≤ ((x.1.2.2.2.2.2.2.2.1.length : Nat) : Int) then
   (F_ap (((x.1.2.2.2.2.2.2.2.1.drop (0 + ((1 : Int)).toNat)).take ((((x.1.2.2.2.2.2.2.2.1.length : Nat) : Int)).toNat - ((1 : Int)).toNat)), ())).bind fun r3 =>
   some ((y2, ()), ((x.1.1, (x.1.2.1, (x.1.2.2.1, (x.1.2.2.2.1, (x.1.2.2.2.2.1, (x.1.2.2.2.2.2.1, (x.1.2.2.2.2.2.2.1, (r3.1.1, (x.1.2.2.2.2.2.2.2.2.1, ()))))))))), ()))
  else none
  else none
 else
  some (((0 : Int), ()), (x.1, ()))
 else
 if (x.2.1 == (2 : Int)) then
  some ((x.1.2.2.2.2.2.2.1, ()), (x.1, ()))
 else
  if (x.2.1 == (3 : Int)) then
  if 0 ≤ (9 : Int) ∧ (9 : Int) < ((x.1.2.2.1.length : Nat) : Int) then
   ((x.1.2.2.1)[((9 : Int)).toNat]?).bind fun y4 =>
   some ((y4, ()), (x.1, ()))
  else none
  else
  if (x.2.1 == (4 : Int)) then
   (F_ar (x.1, ())).bind fun r5 =>
   some ((r5.1.1, ()), (x.1, ()))
  else
   if (x.2.1 == (6 : Int)) then
   let v6 := ((x.1.2.2.2.2.2.2.2.1.length : Nat) : Int)
   some ((v6, ()), (x.1, ()))
   else
   some (((0 : Int), ()), (x.1, ()))
abbrev C_bk : Con := ⟨P_bk, R_bk, F_bk, false⟩
abbrev G_bk : Env := [(139, C_ap), (158, C_ar)]
theorem g_bk : EnvOk Tryz.prog G_bk := (env_cons s_ap (env_cons s_ar env_nil))
theorem r_bk (x) : runFn T G_bk [] Tryz.f304 P_bk R_bk x = F_bk x := by kernel_rfl
theorem s_bk : CallsOk Tryz.prog 304 C_bk :=
 fn_calls (L := []) hT g_bk Tryz.f304 (by kernel_rfl) (by kernel_rfl) (by kernel_rfl) (plain_ok (by kernel_rfl)) r_bk
/-! (*impl.core).load -/
abbrev P_bl : List PK := [.box [.own 2 YI, .dat YI, .own 2 YI, .dat .bool, .dat .bool, .dat .bool, .dat YI, .own 2 YI, .own 2 YI, .dat Y27, .own 2 YI, .dat YI, .dat YI] [.own 2 YI, .dat YI, .own 2 YI, .dat .bool, .dat .bool, .dat .bool, .dat YI, .own 2 YI, .own 2 YI, .dat Y27, .own 2 YI, .dat YI, .dat YI], .val YI]
abbrev R_bl : List VK := [.s (.dat YI), .s (.dat .bool)]
def F_bl (x : denP P_bl) : Option (denV R_bl × denQ P_bl) :=
 (F_be ((x.1.1, (x.1.2.1, (x.1.2.2.1, (x.1.2.2.2.1, (x.1.2.2.2.2.1, (x.1.2.2.2.2.2.1, (x.1.2.2.2.2.2.2.1, (x.1.2.2.2.2.2.2.2.1, (x.1.2.2.2.2.2.2.2.2.1, ()))))))))), x.1.2.2.2.2.2.2.2.2.2.1, x.1.2.2.2.2.2.2.2.2.2.2.1, x.2.1, (1 : Int), ())).bind fun r1 =>
 if (r1.1.1.1 != (0 : Int)) then
 (F_av (x.1, (3 : Int), x.2.1, ())).bind fun r2 =>
 some (((0 : Int), false, ()), (r2.2.1, ()))
 else
 if (leI (1000 : Int) r1.1.1.2.1) then
  let v3 := (IntKind.i64.wrap (r1.1.1.2.1 - (1000 : Int)))
  (F_bk ((x.1.1, (x.1.2.1, (x.1.2.2.1, (x.1.2.2.2.1, (x.1.2.2.2.2.1, (x.1.2.2.2.2.2.1, (x.1.2.2.2.2.2.2.1, (x.1.2.2.2.2.2.2.2.1, (x.1.2.2.2.2.2.2.2.2.1, ()))))))))), v3, ())).bind fun r4 =>
  some ((r4.1.1, true, ()), ((r4.2.1.1, (r4.2.1.2.1, (r4.2.1.2.2.1, (r4.2.1.2.2.2.1, (r4.2.1.2.2.2.2.1, (r4.2.1.2.2.2.2.2.1, (r4.2.1.2.2.2.2.2.2.1, (r4.2.1.2.2.2.2.2.2.2.1, (r4.2.1.2.2.2.2.2.2.2.2.1, (x.1.2.2.2.2.2.2.2.2.2.1, (x.1.2.2.2.2.2.2.2.2.2.2.1, (x.1.2.2.2.2.2.2.2.2.2.2.2.1, (x.1.2.2.2.2.2.2.2.2.2.2.2.2.1, ()))))))))))))), ()))
 else
  if 0 ≤ r1.1.1.2.1 ∧ r1.1.1.2.1 < ((x.1.2.2.2.2.2.2.2.2.2.2.1.length : Nat) : Int) then
  ((x.1.2.2.2.2.2.2.2.2.2.2.1)[(r1.1.1.2.1).toNat]?).bind fun y5 =>
  some ((y5, true, ()), (x.1, ()))
  else none
abbrev C_bl : Con := ⟨P_bl, R_bl, F_bl, false⟩
abbrev G_bl : Env := [(69, C_be), (215, C_av), (304, C_bk)]
theorem g_bl : EnvOk Tryz.prog G_bl := (env_cons s_be (env_cons s_av (env_cons s_bk env_nil)))
theorem r_bl (x) : runFn T G_bl [] Tryz.f262 P_bl R_bl x = F_bl x := by kernel_rfl
theorem s_bl : CallsOk Tryz.prog 262 C_bl :=
 fn_calls (L := []) hT g_bl Tryz.f262 (by kernel_rfl) (by kernel_rfl) (by kernel_rfl) (plain_ok (by kernel_rfl)) r_bl
/-! (*impl.Hart).set -/
abbrev P_bm : List PK := [.box [.own 2 YI, .dat YI, .own 2 YI, .dat .bool, .dat .bool, .dat .bool, .dat YI, .own 2 YI, .own 2 YI] [.own 2 YI, .dat YI, .own 2 YI, .dat .bool, .dat .bool, .dat .bool, .dat YI, .own 2 YI, .own 2 YI], .val YI, .val YI]
abbrev R_bm : List VK := []
def F_bm (x : denP P_bm) : Option (denV R_bm × denQ P_bm) :=
 (F_bh (x.2.2.1, ())).bind fun r1 =>
 if (x.2.1 == (0 : Int)) then
 let v2 := ((r1.1.1).tmod (4 : Int))
 if 0 ≤ x.2.1 ∧ x.2.1 < ((x.1.2.2.1.length : Nat) : Int) then
  ((x.1.2.2.1)[(x.2.1).toNat]?).bind fun y3 =>
  let v4 := (x.1.2.2.1.set (x.2.1).toNat v2)
  some ((), ((x.1.1, (x.1.2.1, (v4, (x.1.2.2.2.1, (x.1.2.2.2.2.1, (x.1.2.2.2.2.2.1, (x.1.2.2.2.2.2.2.1, (x.1.2.2.2.2.2.2.2.1, (x.1.2.2.2.2.2.2.2.2.1, ()))))))))), ()))
 else none
 else
 if (x.2.1 == (7 : Int)) then
  let v5 := ((r1.1.1).tmod (8 : Int))
  if 0 ≤ x.2.1 ∧ x.2.1 < ((x.1.2.2.1.length : Nat) : Int) then
  ((x.1.2.2.1)[(x.2.1).toNat]?).bind fun y6 =>
  let v7 := (x.1.2.2.1.set (x.2.1).toNat v5)
  some ((), ((x.1.1, (x.1.2.1, (v7, (x.1.2.2.2.1, (x.1.2.2.2.2.1, (x.1.2.2.2.2.2.1, (x.1.2.2.2.2.2.2.1, (x.1.2.2.2.2.2.2.2.1, (x.1.2.2.2.2.2.2.2.2.1, ()))))))))), ()))
  else none
 else
  if (x.2.1 == (10 : Int)) then
  if 0 ≤ x.2.1 ∧ x.2.1 < ((x.1.2.2.1.length : Nat) : Int) then
   ((x.1.2.2.1)[(x.2.1).toNat]?).bind fun y8 =>
   let v9 := (x.1.2.2.1.set (x.2.1).toNat (0 : Int))
   if (leI r1.1.1 (8 : Int)) then
   if 0 ≤ x.2.1 ∧ x.2.1 < ((v9.length : Nat) : Int) then
    ((v9)[(x.2.1).toNat]?).bind fun y10 =>
    let v11 := (v9.set (x.2.1).toNat r1.1.1)
    some ((), ((x.1.1, (x.1.2.1, (v11, (x.1.2.2.2.1, (x.1.2.2.2.2.1, (x.1.2.2.2.2.2.1, (x.1.2.2.2.2.2.2.1, (x.1.2.2.2.2.2.2.2.1, (x.1.2.2.2.2.2.2.2.2.1, ()))))))))), ()))
   else none
   else
   some ((), ((x.1.1, (x.1.2.1, (v9, (x.1.2.2.2.1, (x.1.2.2.2.2.1, (x.1.2.2.2.2.2.1, (x.1.2.2.2.2.2.2.1, (x.1.2.2.2.2.2.2.2.1, (x.1.2.2.2.2.2.2.2.2.1, ()))))))))), ()))
  else none
  else
  if (x.2.1 == (6 : Int)) then
   let v12 := ((r1.1.1).tmod (4 : Int))
   if (leI (2 : Int) v12) then
   some ((), ((x.1.1, (x.1.2.1, (x.1.2.2.1, (x.1.2.2.2.1, (x.1.2.2.2.2.1, (false, (x.1.2.2.2.2.2.2.1, (x.1.2.2.2.2.2.2.2.1, (x.1.2.2.2.2.2.2.2.2.1, ()))))))))), ()))
   else
   some ((), (x.1, ()))
  else
   if (x.2.1 == (8 : Int)) then
   some ((), (x.1, ()))
   else
   if 0 ≤ x.2.1 ∧ x.2.1 < ((x.1.2.2.1.length : Nat) : Int) then
    ((x.1.2.2.1)[(x.2.1).toNat]?).bind fun y13 =>
    let v14 := (x.1.2.2.1.set (x.2.1).toNat r1.1.1)
    some ((), ((x.1.1, (x.1.2.1, (v14, (x.1.2.2.2.1, (x.1.2.2.2.2.1, (x.1.2.2.2.2.2.1, (x.1.2.2.2.2.2.2.1, (x.1.2.2.2.2.2.2.2.1, (x.1.2.2.2.2.2.2.2.2.1, ()))))))))), ()))
   else none
abbrev C_bm : Con := ⟨P_bm, R_bm, F_bm, false⟩
abbrev G_bm : Env := [(70, C_bh)]
theorem g_bm : EnvOk Tryz.prog G_bm := (env_cons s_bh env_nil)
theorem r_bm (x) : runFn T G_bm [] Tryz.f266 P_bm R_bm x = F_bm x := by kernel_rfl
theorem s_bm : CallsOk Tryz.prog 266 C_bm :=
 fn_calls (L := []) hT g_bm Tryz.f266 (by kernel_rfl) (by kernel_rfl) (by kernel_rfl) (plain_ok (by kernel_rfl)) r_bm
/-! (*impl.Hart).writeDevice -/
abbrev P_bn : List PK := [.box [.own 2 YI, .dat YI, .own 2 YI, .dat .bool, .dat .bool, .dat .bool, .dat YI, .own 2 YI, .own 2 YI] [.own 2 YI, .dat YI, .own 2 YI, .dat .bool, .dat .bool, .dat .bool, .dat YI, .own 2 YI, .own 2 YI], .val YI, .val YI]
abbrev R_bn : List VK := [.s (.dat YI)]
def F_bn (x : denP P_bn) : Option (denV R_bn × denQ P_bn) :=
 (F_bh (x.2.2.1, ())).bind fun r1 =>
 if (x.2.1 == (0 : Int)) then
 let v2 := ((x.1.2.2.2.2.2.2.2.2.1.length : Nat) : Int)
 if (ltI v2 (40 : Int)) then
  (F_ap (x.1.2.2.2.2.2.2.2.2.1, ())).bind fun r3 =>
  if (r3.1.1.length + [r1.1.1].length) * 8 ≤ 140737488355328 then
  let v4 := (r3.1.1 ++ [r1.1.1])
  some (((-1 : Int), ()), ((x.1.1, (x.1.2.1, (x.1.2.2.1, (x.1.2.2.2.1, (x.1.2.2.2.2.1, (x.1.2.2.2.2.2.1, (x.1.2.2.2.2.2.2.1, (x.1.2.2.2.2.2.2.2.1, (v4, ()))))))))), ()))
  else none
 else
  some (((-1 : Int), ()), (x.1, ()))
 else
 if (x.2.1 == (3 : Int)) then
  (F_bm (x.1, (9 : Int), r1.1.1, ())).bind fun r5 =>
  some (((-1 : Int), ()), (r5.2.1, ()))
 else
  if (x.2.1 == (4 : Int)) then
  (F_bm (x.1, (6 : Int), r1.1.1, ())).bind fun r6 =>
  some (((-1 : Int), ()), (r6.2.1, ()))
  else
  if (x.2.1 == (5 : Int)) then
   some ((r1.1.1, ()), (x.1, ()))
  else
   some (((-1 : Int), ()), (x.1, ()))
abbrev C_bn : Con := ⟨P_bn, R_bn, F_bn, false⟩
abbrev G_bn : Env := [(70, C_bh), (139, C_ap), (266, C_bm)]
theorem g_bn : EnvOk Tryz.prog G_bn := (env_cons s_bh (env_cons s_ap (env_cons s_bm env_nil)))
theorem r_bn (x) : runFn T G_bn [] Tryz.f305 P_bn R_bn x = F_bn x := by kernel_rfl
theorem s_bn : CallsOk Tryz.prog 305 C_bn :=
 fn_calls (L := []) hT g_bn Tryz.f305 (by kernel_rfl) (by kernel_rfl) (by kernel_rfl) (plain_ok (by kernel_rfl)) r_bn
/-! (*impl.core).store -/
abbrev P_bo : List PK := [.box [.own 2 YI, .dat YI, .own 2 YI, .dat .bool, .dat .bool, .dat .bool, .dat YI, .own 2 YI, .own 2 YI, .dat Y27, .own 2 YI, .dat YI, .dat YI] [.own 2 YI, .dat YI, .own 2 YI, .dat .bool, .dat .bool, .dat .bool, .dat YI, .own 2 YI, .own 2 YI, .dat Y27, .own 2 YI, .dat YI, .dat YI], .val YI, .val YI]
abbrev R_bo : List VK := [.s (.dat .bool)]
def F_bo (x : denP P_bo) : Option (denV R_bo × denQ P_bo) :=
 (F_be ((x.1.1, (x.1.2.1, (x.1.2.2.1, (x.1.2.2.2.1, (x.1.2.2.2.2.1, (x.1.2.2.2.2.2.1, (x.1.2.2.2.2.2.2.1, (x.1.2.2.2.2.2.2.2.1, (x.1.2.2.2.2.2.2.2.2.1, ()))))))))), x.1.2.2.2.2.2.2.2.2.2.1, x.1.2.2.2.2.2.2.2.2.2.2.1, x.2.1, (2 : Int), ())).bind fun r1 =>
 if (r1.1.1.1 != (0 : Int)) then
 (F_av (x.1, (4 : Int), x.2.1, ())).bind fun r2 =>
 some ((false, ()), (r2.2.1, ()))
 else
 if (leI (1000 : Int) r1.1.1.2.1) then
  let v3 := (IntKind.i64.wrap (r1.1.1.2.1 - (1000 : Int)))
  (F_bn ((x.1.1, (x.1.2.1, (x.1.2.2.1, (x.1.2.2.2.1, (x.1.2.2.2.2.1, (x.1.2.2.2.2.2.1, (x.1.2.2.2.2.2.2.1, (x.1.2.2.2.2.2.2.2.1, (x.1.2.2.2.2.2.2.2.2.1, ()))))))))), v3, x.2.2.1, ())).bind fun r4 =>
  some ((true, ()), ((r4.2.1.1, (r4.2.1.2.1, (r4.2.1.2.2.1, (r4.2.1.2.2.2.1, (r4.2.1.2.2.2.2.1, (r4.2.1.2.2.2.2.2.1, (r4.2.1.2.2.2.2.2.2.1, (r4.2.1.2.2.2.2.2.2.2.1, (r4.2.1.2.2.2.2.2.2.2.2.1, (x.1.2.2.2.2.2.2.2.2.2.1, (x.1.2.2.2.2.2.2.2.2.2.2.1, (x.1.2.2.2.2.2.2.2.2.2.2.2.1, (r4.1.1, ()))))))))))))), ()))
 else
  if 0 ≤ r1.1.1.2.1 ∧ r1.1.1.2.1 < ((x.1.2.2.2.2.2.2.2.2.2.2.1.length : Nat) : Int) then
  ((x.1.2.2.2.2.2.2.2.2.2.2.1)[(r1.1.1.2.1).toNat]?).bind fun y5 =>
  let v6 := (x.1.2.2.2.2.2.2.2.2.2.2.1.set (r1.1.1.2.1).toNat x.2.2.1)
  some ((true, ()), ((x.1.1, (x.1.2.1, (x.1.2.2.1, (x.1.2.2.2.1, (x.1.2.2.2.2.1, (x.1.2.2.2.2.2.1, (x.1.2.2.2.2.2.2.1, (x.1.2.2.2.2.2.2.2.1, (x.1.2.2.2.2.2.2.2.2.1, (x.1.2.2.2.2.2.2.2.2.2.1, (v6, (x.1.2.2.2.2.2.2.2.2.2.2.2.1, (x.1.2.2.2.2.2.2.2.2.2.2.2.2.1, ()))))))))))))), ()))
  else none
abbrev C_bo : Con := ⟨P_bo, R_bo, F_bo, false⟩
abbrev G_bo : Env := [(69, C_be), (215, C_av), (305, C_bn)]
theorem g_bo : EnvOk Tryz.prog G_bo := (env_cons s_be (env_cons s_av (env_cons s_bn env_nil)))
theorem r_bo (x) : runFn T G_bo [] Tryz.f263 P_bo R_bo x = F_bo x := by kernel_rfl
theorem s_bo : CallsOk Tryz.prog 263 C_bo :=
 fn_calls (L := []) hT g_bo Tryz.f263 (by kernel_rfl) (by kernel_rfl) (by kernel_rfl) (plain_ok (by kernel_rfl)) r_bo
/-! impl.SignedOf -/
abbrev P_bp : List PK := [.val YI]
abbrev R_bp : List VK := [.s (.dat YI)]
def F_bp (x : denP P_bp) : Option (denV R_bp × denQ P_bp) :=
 (F_bh (x.1, ())).bind fun r1 =>
 if (ltI r1.1.1 (2147483648 : Int)) then
 some ((r1.1.1, ()), ())
 else
 let v2 := (IntKind.i64.wrap (r1.1.1 - (4294967295 : Int)))
 let v3 := (IntKind.i64.wrap (v2 - (1 : Int)))
 some ((v3, ()), ())
abbrev C_bp : Con := ⟨P_bp, R_bp, F_bp, false⟩
abbrev G_bp : Env := [(70, C_bh)]
theorem g_bp : EnvOk Tryz.prog G_bp := (env_cons s_bh env_nil)
theorem r_bp (x) : runFn T G_bp [] Tryz.f264 P_bp R_bp x = F_bp x := by kernel_rfl
theorem s_bp : CallsOk Tryz.prog 264 C_bp :=
 fn_calls (L := []) hT g_bp Tryz.f264 (by kernel_rfl) (by kernel_rfl) (by kernel_rfl) (plain_ok (by kernel_rfl)) r_bp
/-! (*impl.Hart).get -/
abbrev P_bq : List PK := [.ptr Y25, .val YI]
abbrev R_bq : List VK := [.s (.dat YI)]
def F_bq (x : denP P_bq) : Option (denV R_bq × denQ P_bq) :=
 if (x.2.1 == (6 : Int)) then
 (F_ar (x.1, ())).bind fun r1 =>
 some ((r1.1.1, ()), ())
 else
 if (x.2.1 == (8 : Int)) then
  some ((x.1.2.2.2.2.2.2.1, ()), ())
 else
  if 0 ≤ x.2.1 then
  ((x.1.2.2.1)[(x.2.1).toNat]?).bind fun y2 =>
  some ((y2, ()), ())
  else none
abbrev C_bq : Con := ⟨P_bq, R_bq, F_bq, false⟩
abbrev G_bq : Env := [(158, C_ar)]
theorem g_bq : EnvOk Tryz.prog G_bq := (env_cons s_ar env_nil)
theorem r_bq (x) : runFn T G_bq [] Tryz.f265 P_bq R_bq x = F_bq x := by kernel_rfl
theorem s_bq : CallsOk Tryz.prog 265 C_bq :=
 fn_calls (L := []) hT g_bq Tryz.f265 (by kernel_rfl) (by kernel_rfl) (by kernel_rfl) (plain_ok (by kernel_rfl)) r_bq
/-! (*impl.Hart).back -/
abbrev P_br : List PK := [.box [.own 2 YI, .dat YI, .own 2 YI, .dat .bool, .dat .bool, .dat .bool, .dat YI, .own 2 YI, .own 2 YI] [.own 2 YI, .dat YI, .own 2 YI, .dat .bool, .dat .bool, .dat .bool, .dat YI, .own 2 YI, .own 2 YI]]
abbrev R_br : List VK := []
def F_br (x : denP P_br) : Option (denV R_br × denQ P_br) :=
 if 0 ≤ (2 : Int) ∧ (2 : Int) < ((x.1.2.2.1.length : Nat) : Int) then
 ((x.1.2.2.1)[((2 : Int)).toNat]?).bind fun y1 =>
 if 0 ≤ (0 : Int) ∧ (0 : Int) < ((x.1.2.2.1.length : Nat) : Int) then
  ((x.1.2.2.1)[((0 : Int)).toNat]?).bind fun y2 =>
  let v3 := (IntKind.i64.wrap ((y2).tdiv (2 : Int)))
  let v4 := (IntKind.i64.wrap ((2 : Int) + v3))
  if 0 ≤ (0 : Int) ∧ (0 : Int) < ((x.1.2.2.1.length : Nat) : Int) then
  ((x.1.2.2.1)[((0 : Int)).toNat]?).bind fun y5 =>
  let v6 := (x.1.2.2.1.set ((0 : Int)).toNat v4)
  some ((), ((x.1.1, (y1, (v6, (x.1.2.2.2.1, (x.1.2.2.2.2.1, (x.1.2.2.2.2.2.1, (x.1.2.2.2.2.2.2.1, (x.1.2.2.2.2.2.2.2.1, (x.1.2.2.2.2.2.2.2.2.1, ()))))))))), ()))
  else none
 else none
 else none
abbrev C_br : Con := ⟨P_br, R_br, F_br, false⟩
abbrev G_br : Env := []
theorem g_br : EnvOk Tryz.prog G_br := env_nil
theorem r_br (x) : runFn T G_br [] Tryz.f267 P_br R_br x = F_br x := by kernel_rfl
theorem s_br : CallsOk Tryz.prog 267 C_br :=
 fn_calls (L := []) hT g_br Tryz.f267 (by kernel_rfl) (by kernel_rfl) (by kernel_rfl) (plain_ok (by kernel_rfl)) r_br
/-! impl.MulWords -/
abbrev P_bs : List PK := [.val YI, .val YI]
abbrev R_bs : List VK := [.s (.dat YI)]
def F_bs (x : denP P_bs) : Option (denV R_bs × denQ P_bs) :=
 let v1 := (IntKind.u32.wrap x.1)
 let v2 := (IntKind.u32.wrap x.2.1)
 let v3 := (IntKind.u32.wrap (v1 * v2))
 let v4 := (IntKind.i64.wrap v3)
 some ((v4, ()), ())
abbrev C_bs : Con := ⟨P_bs, R_bs, F_bs, false⟩
abbrev G_bs : Env := []
theorem g_bs : EnvOk Tryz.prog G_bs := env_nil
theorem r_bs (x) : runFn T G_bs [] Tryz.f306 P_bs R_bs x = F_bs x := by kernel_rfl
theorem s_bs : CallsOk Tryz.prog 306 C_bs :=
 fn_calls (L := []) hT g_bs Tryz.f306 (by kernel_rfl) (by kernel_rfl) (by kernel_rfl) (plain_ok (by kernel_rfl)) r_bs
/-! impl.DivWords -/
abbrev P_bt : List PK := [.val YI, .val YI]
abbrev R_bt : List VK := [.s (.dat YI)]
def F_bt (x : denP P_bt) : Option (denV R_bt × denQ P_bt) :=
 (F_bp (x.1, ())).bind fun r1 =>
 (F_bp (x.2.1, ())).bind fun r2 =>
 if (r2.1.1 == (0 : Int)) then
 some (((4294967295 : Int), ()), ())
 else
 if r2.1.1 = 0 then none else
 let v3 := (IntKind.i64.wrap ((r1.1.1).tdiv r2.1.1))
 (F_bh (v3, ())).bind fun r4 =>
 some ((r4.1.1, ()), ())
abbrev C_bt : Con := ⟨P_bt, R_bt, F_bt, false⟩
abbrev G_bt : Env := [(70, C_bh), (264, C_bp)]
theorem g_bt : EnvOk Tryz.prog G_bt := (env_cons s_bh (env_cons s_bp env_nil))
theorem r_bt (x) : runFn T G_bt [] Tryz.f307 P_bt R_bt x = F_bt x := by kernel_rfl
theorem s_bt : CallsOk Tryz.prog 307 C_bt :=
 fn_calls (L := []) hT g_bt Tryz.f307 (by kernel_rfl) (by kernel_rfl) (by kernel_rfl) (plain_ok (by kernel_rfl)) r_bt
/-! impl.RemWords -/
abbrev P_bu : List PK := [.val YI, .val YI]
abbrev R_bu : List VK := [.s (.dat YI)]
def F_bu (x : denP P_bu) : Option (denV R_bu × denQ P_bu) :=
 (F_bp (x.1, ())).bind fun r1 =>
 (F_bp (x.2.1, ())).bind fun r2 =>
 if (r2.1.1 == (0 : Int)) then
 (F_bh (x.1, ())).bind fun r3 =>
 some ((r3.1.1, ()), ())
 else
 if r2.1.1 = 0 then none else
 let v4 := ((r1.1.1).tmod r2.1.1)
 (F_bh (v4, ())).bind fun r5 =>
 some ((r5.1.1, ()), ())
abbrev C_bu : Con := ⟨P_bu, R_bu, F_bu, false⟩
abbrev G_bu : Env := [(70, C_bh), (264, C_bp)]
theorem g_bu : EnvOk Tryz.prog G_bu := (env_cons s_bh (env_cons s_bp env_nil))
theorem r_bu (x) : runFn T G_bu [] Tryz.f308 P_bu R_bu x = F_bu x := by kernel_rfl
theorem s_bu : CallsOk Tryz.prog 308 C_bu :=
 fn_calls (L := []) hT g_bu Tryz.f308 (by kernel_rfl) (by kernel_rfl) (by kernel_rfl) (plain_ok (by kernel_rfl)) r_bu
/-! impl.BitWords -/
abbrev P_bv : List PK := [.val YI, .val YI, .val YI]
abbrev R_bv : List VK := [.s (.dat Y40)]
def F_bv (x : denP P_bv) : Option (denV R_bv × denQ P_bv) :=
 (F_bh (x.2.1, ())).bind fun r1 =>
 (F_bh (x.2.2.1, ())).bind fun r2 =>
 if (x.1 == (1 : Int)) then
 let v3 := (iand .i64 r1.1.1 r2.1.1)
 some ((((0 : Int), (v3, ())), ()), ())
 else
 if (x.1 == (2 : Int)) then
  let v4 := (ior .i64 r1.1.1 r2.1.1)
  some ((((0 : Int), (v4, ())), ()), ())
 else
  if (x.1 == (3 : Int)) then
  let v5 := (ixor .i64 r1.1.1 r2.1.1)
  some ((((0 : Int), (v5, ())), ()), ())
  else
  some ((((3 : Int), ((0 : Int), ())), ()), ())
abbrev C_bv : Con := ⟨P_bv, R_bv, F_bv, false⟩
abbrev G_bv : Env := [(70, C_bh)]
theorem g_bv : EnvOk Tryz.prog G_bv := (env_cons s_bh env_nil)
theorem r_bv (x) : runFn T G_bv [] Tryz.f309 P_bv R_bv x = F_bv x := by kernel_rfl
theorem s_bv : CallsOk Tryz.prog 309 C_bv :=
 fn_calls (L := []) hT g_bv Tryz.f309 (by kernel_rfl) (by kernel_rfl) (by kernel_rfl) (plain_ok (by kernel_rfl)) r_bv
/-! impl.ShiftWord -/
abbrev P_bw : List PK := [.val YI, .val YI, .val .bool]
abbrev R_bw : List VK := [.s (.dat YI)]
def F_bw (x : denP P_bw) : Option (denV R_bw × denQ P_bw) :=
 (F_bh (x.1, ())).bind fun r1 =>
 (F_bh (x.2.1, ())).bind fun r2 =>
 let v3 := ((r2.1.1).tmod (32 : Int))
 if x.2.2.1 then
 if v3 < 0 then none else
 let v4 := (IntKind.i64.wrap (r1.1.1 * 2 ^ (min (v3).toNat 64)))
 (F_bh (v4, ())).bind fun r5 =>
 some ((r5.1.1, ()), ())
 else
 if v3 < 0 then none else
 let v6 := ((r1.1.1).fdiv (2 ^ (min (v3).toNat 64)))
 some ((v6, ()), ())
abbrev C_bw : Con := ⟨P_bw, R_bw, F_bw, false⟩
abbrev G_bw : Env := [(70, C_bh)]
theorem g_bw : EnvOk Tryz.prog G_bw := (env_cons s_bh env_nil)
theorem r_bw (x) : runFn T G_bw [] Tryz.f310 P_bw R_bw x = F_bw x := by kernel_rfl
theorem s_bw : CallsOk Tryz.prog 310 C_bw :=
 fn_calls (L := []) hT g_bw Tryz.f310 (by kernel_rfl) (by kernel_rfl) (by kernel_rfl) (plain_ok (by kernel_rfl)) r_bw
/-! impl.AluOf -/
abbrev P_bx : List PK := [.val YI, .val YI, .val YI]
abbrev R_bx : List VK := [.s (.dat Y40)]
def F_bx (x : denP P_bx) : Option (denV R_bx × denQ P_bx) :=
 (F_bh (x.2.1, ())).bind fun r1 =>
 (F_bh (x.2.2.1, ())).bind fun r2 =>
 if (x.1 == (1 : Int)) then
 (F_bi (r1.1.1, r2.1.1, ())).bind fun r3 =>
 some ((((0 : Int), (r3.1.1, ())), ()), ())
 else
 if (x.1 == (2 : Int)) then
  let v4 := (IntKind.i64.wrap (r1.1.1 - r2.1.1))
  (F_bh (v4, ())).bind fun r5 =>
  some ((((0 : Int), (r5.1.1, ())), ()), ())
 else
  if (x.1 == (3 : Int)) then
  (F_bs (r1.1.1, r2.1.1, ())).bind fun r6 =>
  some ((((0 : Int), (r6.1.1, ())), ()), ())
  else
  if (x.1 == (4 : Int)) then
   (F_bt (r1.1.1, r2.1.1, ())).bind fun r7 =>
   some ((((0 : Int), (r7.1.1, ())), ()), ())
  else
   if (x.1 == (5 : Int)) then
   (F_bu (r1.1.1, r2.1.1, ())).bind fun r8 =>
   some ((((0 : Int), (r8.1.1, ())), ()), ())
   else
   if (x.1 == (6 : Int)) then
    let v9 := (IntKind.i64.wrap (x.1 - (6 : Int)))
    let v10 := (IntKind.i64.wrap (v9 + (1 : Int)))
    (F_bv (v10, r1.1.1, r2.1.1, ())).bind fun r11 =>
    some ((r11.1.1, ()), ())
   else
    if (x.1 == (7 : Int)) then
    let v12 := (IntKind.i64.wrap (x.1 - (6 : Int)))
    let v13 := (IntKind.i64.wrap (v12 + (1 : Int)))
    (F_bv (v13, r1.1.1, r2.1.1, ())).bind fun r14 =>
    some ((r14.1.1, ()), ())
    else
    if (x.1 == (8 : Int)) then
     let v15 := (IntKind.i64.wrap (x.1 - (6 : Int)))
     let v16 := (IntKind.i64.wrap (v15 + (1 : Int)))
     (F_bv (v16, r1.1.1, r2.1.1, ())).bind fun r17 =>
     some ((r17.1.1, ()), ())
    else
     if (x.1 == (9 : Int)) then
     (F_bw (r1.1.1, r2.1.1, (x.1 == (9 : Int)), ())).bind fun r18 =>
     some ((((0 : Int), (r18.1.1, ())), ()), ())
     else
     if (x.1 == (10 : Int)) then
      (F_bw (r1.1.1, r2.1.1, (x.1 == (9 : Int)), ())).bind fun r19 =>
      some ((((0 : Int), (r19.1.1, ())), ()), ())
     else
      if (x.1 == (11 : Int)) then
      (F_bp (r1.1.1, ())).bind fun r20 =>
      (F_bp (r2.1.1, ())).bind fun r21 =>
      if (ltI r20.1.1 r21.1.1) then
       some ((((0 : Int), ((1 : Int), ())), ()), ())
      else
       some ((((0 : Int), ((0 : Int), ())), ()), ())
      else
      some ((((3 : Int), ((0 : Int), ())), ()), ())
abbrev C_bx : Con := ⟨P_bx, R_bx, F_bx, false⟩
abbrev G_bx : Env := [(27, C_bi), (70, C_bh), (264, C_bp), (306, C_bs), (307, C_bt), (308, C_bu), (309, C_bv), (310, C_bw)]
theorem g_bx : EnvOk Tryz.prog G_bx := (env_cons s_bi (env_cons s_bh (env_cons s_bp (env_cons s_bs (env_cons s_bt (env_cons s_bu (env_cons s_bv (env_cons s_bw env_nil))))))))
theorem r_bx (x) : runFn T G_bx [] Tryz.f268 P_bx R_bx x = F_bx x := by kernel_rfl
theorem s_bx : CallsOk Tryz.prog 268 C_bx :=
 fn_calls (L := []) hT g_bx Tryz.f268 (by kernel_rfl) (by kernel_rfl) (by kernel_rfl) (plain_ok (by kernel_rfl)) r_bx
/-! impl.WritesD -/
abbrev P_by : List PK := [.val YI]
abbrev R_by : List VK := [.s (.dat .bool)]
def F_by (x : denP P_by) : Option (denV R_by × denQ P_by) :=
 (F_ab (x.1, (1 : Int), (14 : Int), ())).bind fun r1 =>
 if r1.1.1 = false then
 (F_ab (x.1, (19 : Int), (21 : Int), ())).bind fun r2 =>
 some ((r2.1.1, ()), ())
 else
 some ((true, ()), ())
abbrev C_by : Con := ⟨P_by, R_by, F_by, false⟩
abbrev G_by : Env := [(56, C_ab)]
theorem g_by : EnvOk Tryz.prog G_by := (env_cons s_ab env_nil)
theorem r_by (x) : runFn T G_by [] Tryz.f269 P_by R_by x = F_by x := by kernel_rfl
theorem s_by : CallsOk Tryz.prog 269 C_by :=
 fn_calls (L := []) hT g_by Tryz.f269 (by kernel_rfl) (by kernel_rfl) (by kernel_rfl) (plain_ok (by kernel_rfl)) r_by
/-! (*impl.core).do -/
abbrev P_bz : List PK := [.box [.own 2 YI, .dat YI, .own 2 YI, .dat .bool, .dat .bool, .dat .bool, .dat YI, .own 2 YI, .own 2 YI, .dat Y27, .own 2 YI, .dat YI, .dat YI] [.own 2 YI, .dat YI, .own 2 YI, .dat .bool, .dat .bool, .dat .bool, .dat YI, .own 2 YI, .own 2 YI, .dat Y27, .own 2 YI, .dat YI, .dat YI], .val Y42]
abbrev R_bz : List VK := [.s (.dat .bool)]
abbrev i_bz_100000 : Shp := { slots := [(0, .s (.ptr 9000000 0)), (3, .s (.ptr 3 0)), (5, .s (.dat YI)), (6, .s (.dat YI)), (7, .s (.dat YI)), (8, .s (.dat YI)), (9, .s (.dat YI)), (10, .s (.dat YI)), (11, .s (.dat YI)), (12, .s (.dat YI)), (56, .s (.dat YI))], boxes := [(3, [.dat YI, .dat YI, .dat YI, .dat YI]), (9000000, [.own 2 YI, .dat YI, .own 2 YI, .dat .bool, .dat .bool, .dat .bool, .dat YI, .own 2 YI, .own 2 YI, .dat Y27, .own 2 YI, .dat YI, .dat YI])], rows := [] }
abbrev o_bz_100000 : List (Ex × Shp) := [(.normal, { slots := [(0, .s (.ptr 9000000 0)), (3, .s (.ptr 3 0)), (6, .s (.dat YI)), (11, .s (.dat YI))], boxes := [(3, [.dat YI, .dat YI, .dat YI, .dat YI]), (9000000, [.own 2 YI, .dat YI, .own 2 YI, .dat .bool, .dat .bool, .dat .bool, .dat YI, .own 2 YI, .own 2 YI, .dat Y27, .own 2 YI, .dat YI, .dat YI])], rows := [] }), (.ret, { slots := [(4, .s (.dat .bool))], boxes := [(9000000, [.own 2 YI, .dat YI, .own 2 YI, .dat .bool, .dat .bool, .dat .bool, .dat YI, .own 2 YI, .own 2 YI, .dat Y27, .own 2 YI, .dat YI, .dat YI])], rows := [] })]
def L_bz_100000 (u100000 : i_bz_100000.den) : Option (denO o_bz_100000) :=
 if (u100000.1.2.2.2.2.2.2.2.2.2.2.1 == (12 : Int)) then
 some (.inl (((), ((), (u100000.1.2.2.2.1, (u100000.1.2.2.2.2.2.2.2.1, ())))), ((u100000.2.1.1, (u100000.2.1.2.1, ())), ())))
 else
 if (u100000.1.2.2.2.2.2.2.2.2.2.2.1 == (13 : Int)) then
  let v40 := (IntKind.i64.wrap (u100000.2.1.1.2.2.2.1 * (65536 : Int)))
  some (.inl (((), ((), (u100000.1.2.2.2.1, (v40, ())))), ((u100000.2.1.1, (u100000.2.1.2.1, ())), ())))
 else
  if (u100000.1.2.2.2.2.2.2.2.2.2.2.1 == (14 : Int)) then
  (F_bl (u100000.2.1.2.1, u100000.1.2.2.2.2.2.2.2.1, ())).bind fun r41 =>
  if (!r41.1.2.1) then
   some (.inr (.inl ((false, ()), ((r41.2.1, ()), ()))))
  else
   some (.inl (((), ((), (u100000.1.2.2.2.1, (r41.1.1, ())))), ((u100000.2.1.1, (r41.2.1, ())), ())))
  else
  if (u100000.1.2.2.2.2.2.2.2.2.2.2.1 == (15 : Int)) then
   (F_bo (u100000.2.1.2.1, u100000.1.2.2.2.2.2.2.2.1, u100000.1.2.2.2.2.2.1, ())).bind fun r42 =>
   if (!r42.1.1) then
   some (.inr (.inl ((false, ()), ((r42.2.1, ()), ()))))
   else
   some (.inl (((), ((), (u100000.1.2.2.2.1, (u100000.1.2.2.2.2.2.2.2.2.1, ())))), ((u100000.2.1.1, (r42.2.1, ())), ())))
  else
   if (u100000.1.2.2.2.2.2.2.2.2.2.2.1 == (16 : Int)) then
   if (u100000.1.2.2.2.2.2.2.2.2.2.1 == (16 : Int)) = true then
    if (u100000.1.2.2.2.2.2.1 == u100000.1.2.2.2.2.2.2.1) = false then
    if (u100000.1.2.2.2.2.2.2.2.2.2.1 == (17 : Int)) = true then
     if (u100000.1.2.2.2.2.2.1 != u100000.1.2.2.2.2.2.2.1) = false then
     if (u100000.1.2.2.2.2.2.2.2.2.2.1 == (18 : Int)) = true then
      (F_bp (u100000.1.2.2.2.2.2.1, ())).bind fun r43 =>
      (F_bp (u100000.1.2.2.2.2.2.2.1, ())).bind fun r44 =>
      if (ltI r43.1.1 r44.1.1) then
      some (.inl (((), ((), (u100000.1.2.2.2.2.1, (u100000.1.2.2.2.2.2.2.2.2.1, ())))), ((u100000.2.1.1, (u100000.2.1.2.1, ())), ())))
      else
      some (.inl (((), ((), (u100000.1.2.2.2.1, (u100000.1.2.2.2.2.2.2.2.2.1, ())))), ((u100000.2.1.1, (u100000.2.1.2.1, ())), ())))
     else
      some (.inl (((), ((), (u100000.1.2.2.2.1, (u100000.1.2.2.2.2.2.2.2.2.1, ())))), ((u100000.2.1.1, (u100000.2.1.2.1, ())), ())))
     else
     some (.inl (((), ((), (u100000.1.2.2.2.2.1, (u100000.1.2.2.2.2.2.2.2.2.1, ())))), ((u100000.2.1.1, (u100000.2.1.2.1, ())), ())))
    else
     if (u100000.1.2.2.2.2.2.2.2.2.2.1 == (18 : Int)) = true then
     (F_bp (u100000.1.2.2.2.2.2.1, ())).bind fun r45 =>
     (F_bp (u100000.1.2.2.2.2.2.2.1, ())).bind fun r46 =>
     if (ltI r45.1.1 r46.1.1) then
      some (.inl (((), ((), (u100000.1.2.2.2.2.1, (u100000.1.2.2.2.2.2.2.2.2.1, ())))), ((u100000.2.1.1, (u100000.2.1.2.1, ())), ())))
     else
      some (.inl (((), ((), (u100000.1.2.2.2.1, (u100000.1.2.2.2.2.2.2.2.2.1, ())))), ((u100000.2.1.1, (u100000.2.1.2.1, ())), ())))
     else
     some (.inl (((), ((), (u100000.1.2.2.2.1, (u100000.1.2.2.2.2.2.2.2.2.1, ())))), ((u100000.2.1.1, (u100000.2.1.2.1, ())), ())))
    else
    some (.inl (((), ((), (u100000.1.2.2.2.2.1, (u100000.1.2.2.2.2.2.2.2.2.1, ())))), ((u100000.2.1.1, (u100000.2.1.2.1, ())), ())))
   else
    if (u100000.1.2.2.2.2.2.2.2.2.2.1 == (17 : Int)) = true then
    if (u100000.1.2.2.2.2.2.1 != u100000.1.2.2.2.2.2.2.1) = false then
     if (u100000.1.2.2.2.2.2.2.2.2.2.1 == (18 : Int)) = true then
     (F_bp (u100000.1.2.2.2.2.2.1, ())).bind fun r47 =>
     (F_bp (u100000.1.2.2.2.2.2.2.1, ())).bind fun r48 =>
     if (ltI r47.1.1 r48.1.1) then
      some (.inl (((), ((), (u100000.1.2.2.2.2.1, (u100000.1.2.2.2.2.2.2.2.2.1, ())))), ((u100000.2.1.1, (u100000.2.1.2.1, ())), ())))
     else
      some (.inl (((), ((), (u100000.1.2.2.2.1, (u100000.1.2.2.2.2.2.2.2.2.1, ())))), ((u100000.2.1.1, (u100000.2.1.2.1, ())), ())))
     else
     some (.inl (((), ((), (u100000.1.2.2.2.1, (u100000.1.2.2.2.2.2.2.2.2.1, ())))), ((u100000.2.1.1, (u100000.2.1.2.1, ())), ())))
    else
     some (.inl (((), ((), (u100000.1.2.2.2.2.1, (u100000.1.2.2.2.2.2.2.2.2.1, ())))), ((u100000.2.1.1, (u100000.2.1.2.1, ())), ())))
    else
    if (u100000.1.2.2.2.2.2.2.2.2.2.1 == (18 : Int)) = true then
     (F_bp (u100000.1.2.2.2.2.2.1, ())).bind fun r49 =>
     (F_bp (u100000.1.2.2.2.2.2.2.1, ())).bind fun r50 =>
     if (ltI r49.1.1 r50.1.1) then
     some (.inl (((), ((), (u100000.1.2.2.2.2.1, (u100000.1.2.2.2.2.2.2.2.2.1, ())))), ((u100000.2.1.1, (u100000.2.1.2.1, ())), ())))
     else
     some (.inl (((), ((), (u100000.1.2.2.2.1, (u100000.1.2.2.2.2.2.2.2.2.1, ())))), ((u100000.2.1.1, (u100000.2.1.2.1, ())), ())))
    else
     some (.inl (((), ((), (u100000.1.2.2.2.1, (u100000.1.2.2.2.2.2.2.2.2.1, ())))), ((u100000.2.1.1, (u100000.2.1.2.1, ())), ())))
   else
   if (u100000.1.2.2.2.2.2.2.2.2.2.2.1 == (17 : Int)) then
    if (u100000.1.2.2.2.2.2.2.2.2.2.1 == (16 : Int)) = true then
    if (u100000.1.2.2.2.2.2.1 == u100000.1.2.2.2.2.2.2.1) = false then
     if (u100000.1.2.2.2.2.2.2.2.2.2.1 == (17 : Int)) = true then
     if (u100000.1.2.2.2.2.2.1 != u100000.1.2.2.2.2.2.2.1) = false then
      if (u100000.1.2.2.2.2.2.2.2.2.2.1 == (18 : Int)) = true then
      (F_bp (u100000.1.2.2.2.2.2.1, ())).bind fun r51 =>
      (F_bp (u100000.1.2.2.2.2.2.2.1, ())).bind fun r52 =>
      if (ltI r51.1.1 r52.1.1) then
       some (.inl (((), ((), (u100000.1.2.2.2.2.1, (u100000.1.2.2.2.2.2.2.2.2.1, ())))), ((u100000.2.1.1, (u100000.2.1.2.1, ())), ())))
      else
       some (.inl (((), ((), (u100000.1.2.2.2.1, (u100000.1.2.2.2.2.2.2.2.2.1, ())))), ((u100000.2.1.1, (u100000.2.1.2.1, ())), ())))
      else
      some (.inl (((), ((), (u100000.1.2.2.2.1, (u100000.1.2.2.2.2.2.2.2.2.1, ())))), ((u100000.2.1.1, (u100000.2.1.2.1, ())), ())))
     else
      some (.inl (((), ((), (u100000.1.2.2.2.2.1, (u100000.1.2.2.2.2.2.2.2.2.1, ())))), ((u100000.2.1.1, (u100000.2.1.2.1, ())), ())))
     else
     if (u100000.1.2.2.2.2.2.2.2.2.2.1 == (18 : Int)) = true then
      (F_bp (u100000.1.2.2.2.2.2.1, ())).bind fun r53 =>
      (F_bp (u100000.1.2.2.2.2.2.2.1, ())).bind fun r54 =>
      if (ltI r53.1.1 r54.1.1) then
      some (.inl (((), ((), (u100000.1.2.2.2.2.1, (u100000.1.2.2.2.2.2.2.2.2.1, ())))), ((u100000.2.1.1, (u100000.2.1.2.1, ())), ())))
      else
      some (.inl (((), ((), (u100000.1.2.2.2.1, (u100000.1.2.2.2.2.2.2.2.2.1, ())))), ((u100000.2.1.1, (u100000.2.1.2.1, ())), ())))
     else
      some (.inl (((), ((), (u100000.1.2.2.2.1, (u100000.1.2.2.2.2.2.2.2.2.1, ())))), ((u100000.2.1.1, (u100000.2.1.2.1, ())), ())))
    else
     some (.inl (((), ((), (u100000.1.2.2.2.2.1, (u100000.1.2.2.2.2.2.2.2.2.1, ())))), ((u100000.2.1.1, (u100000.2.1.2.1, ())), ())))
    else
    if (u100000.1.2.2.2.2.2.2.2.2.2.1 == (17 : Int)) = true then
     if (u100000.1.2.2.2.2.2.1 != u100000.1.2.2.2.2.2.2.1) = false then
     if (u100000.1.2.2.2.2.2.2.2.2.2.1 == (18 : Int)) = true then
      (F_bp (u100000.1.2.2.2.2.2.1, ())).bind fun r55 =>
      (F_bp (u100000.1.2.2.2.2.2.2.1, ())).bind fun r56 =>
      if (ltI r55.1.1 r56.1.1) then
      some (.inl (((), ((), (u100000.1.2.2.2.2.1, (u100000.1.2.2.2.2.2.2.2.2.1, ())))), ((u100000.2.1.1, (u100000.2.1.2.1, ())), ())))
      else
      some (.inl (((), ((), (u100000.1.2.2.2.1, (u100000.1.2.2.2.2.2.2.2.2.1, ())))), ((u100000.2.1.1, (u100000.2.1.2.1, ())), ())))
     else
      some (.inl (((), ((), (u100000.1.2.2.2.1, (u100000.1.2.2.2.2.2.2.2.2.1, ())))), ((u100000.2.1.1, (u100000.2.1.2.1, ())), ())))
     else
     some (.inl (((), ((), (u100000.1.2.2.2.2.1, (u100000.1.2.2.2.2.2.2.2.2.1, ())))), ((u100000.2.1.1, (u100000.2.1.2.1, ())), ())))
    else
     if (u100000.1.2.2.2.2.2.2.2.2.2.1 == (18 : Int)) = true then
     (F_bp (u100000.1.2.2.2.2.2.1, ())).bind fun r57 =>
     (F_bp (u100000.1.2.2.2.2.2.2.1, ())).bind fun r58 =>
     if (ltI r57.1.1 r58.1.1) then
      some (.inl (((), ((), (u100000.1.2.2.2.2.1, (u100000.1.2.2.2.2.2.2.2.2.1, ())))), ((u100000.2.1.1, (u100000.2.1.2.1, ())), ())))
     else
      some (.inl (((), ((), (u100000.1.2.2.2.1, (u100000.1.2.2.2.2.2.2.2.2.1, ())))), ((u100000.2.1.1, (u100000.2.1.2.1, ())), ())))
     else
     some (.inl (((), ((), (u100000.1.2.2.2.1, (u100000.1.2.2.2.2.2.2.2.2.1, ())))), ((u100000.2.1.1, (u100000.2.1.2.1, ())), ())))
   else
    if (u100000.1.2.2.2.2.2.2.2.2.2.2.1 == (18 : Int)) then
    if (u100000.1.2.2.2.2.2.2.2.2.2.1 == (16 : Int)) = true then
     if (u100000.1.2.2.2.2.2.1 == u100000.1.2.2.2.2.2.2.1) = false then
     if (u100000.1.2.2.2.2.2.2.2.2.2.1 == (17 : Int)) = true then
      if (u100000.1.2.2.2.2.2.1 != u100000.1.2.2.2.2.2.2.1) = false then
      if (u100000.1.2.2.2.2.2.2.2.2.2.1 == (18 : Int)) = true then
       (F_bp (u100000.1.2.2.2.2.2.1, ())).bind fun r59 =>
       (F_bp (u100000.1.2.2.2.2.2.2.1, ())).bind fun r60 =>
       if (ltI r59.1.1 r60.1.1) then
       some (.inl (((), ((), (u100000.1.2.2.2.2.1, (u100000.1.2.2.2.2.2.2.2.2.1, ())))), ((u100000.2.1.1, (u100000.2.1.2.1, ())), ())))
       else
       some (.inl (((), ((), (u100000.1.2.2.2.1, (u100000.1.2.2.2.2.2.2.2.2.1, ())))), ((u100000.2.1.1, (u100000.2.1.2.1, ())), ())))
      else
       some (.inl (((), ((), (u100000.1.2.2.2.1, (u100000.1.2.2.2.2.2.2.2.2.1, ())))), ((u100000.2.1.1, (u100000.2.1.2.1, ())), ())))
      else
      some (.inl (((), ((), (u100000.1.2.2.2.2.1, (u100000.1.2.2.2.2.2.2.2.2.1, ())))), ((u100000.2.1.1, (u100000.2.1.2.1, ())), ())))
     else
      if (u100000.1.2.2.2.2.2.2.2.2.2.1 == (18 : Int)) = true then
      (F_bp (u100000.1.2.2.2.2.2.1, ())).bind fun r61 =>
      (F_bp (u100000.1.2.2.2.2.2.2.1, ())).bind fun r62 =>
      if (ltI r61.1.1 r62.1.1) then
       some (.inl (((), ((), (u100000.1.2.2.2.2.1, (u100000.1.2.2.2.2.2.2.2.2.1, ())))), ((u100000.2.1.1, (u100000.2.1.2.1, ())), ())))
      else
       some (.inl (((), ((), (u100000.1.2.2.2.1, (u100000.1.2.2.2.2.2.2.2.2.1, ())))), ((u100000.2.1.1, (u100000.2.1.2.1, ())), ())))
      else
      some (.inl (((), ((), (u100000.1.2.2.2.1, (u100000.1.2.2.2.2.2.2.2.2.1, ())))), ((u100000.2.1.1, (u100000.2.1.2.1, ())), ())))
     else
     some (.inl (((), ((), (u100000.1.2.2.2.2.1, (u100000.1.2.2.2.2.2.2.2.2.1, ())))), ((u100000.2.1.1, (u100000.2.1.2.1, ())), ())))
    else
     if (u100000.1.2.2.2.2.2.2.2.2.2.1 == (17 : Int)) = true then
     if (u100000.1.2.2.2.2.2.1 != u100000.1.2.2.2.2.2.2.1) = false then
      if (u100000.1.2.2.2.2.2.2.2.2.2.1 == (18 : Int)) = true then
      (F_bp (u100000.1.2.2.2.2.2.1, ())).bind fun r63 =>
      (F_bp (u100000.1.2.2.2.2.2.2.1, ())).bind fun r64 =>
      if (ltI r63.1.1 r64.1.1) then
       some (.inl (((), ((), (u100000.1.2.2.2.2.1, (u100000.1.2.2.2.2.2.2.2.2.1, ())))), ((u100000.2.1.1, (u100000.2.1.2.1, ())), ())))
      else
       some (.inl (((), ((), (u100000.1.2.2.2.1, (u100000.1.2.2.2.2.2.2.2.2.1, ())))), ((u100000.2.1.1, (u100000.2.1.2.1, ())), ())))
      else
      some (.inl (((), ((), (u100000.1.2.2.2.1, (u100000.1.2.2.2.2.2.2.2.2.1, ())))), ((u100000.2.1.1, (u100000.2.1.2.1, ())), ())))
     else
      some (.inl (((), ((), (u100000.1.2.2.2.2.1, (u100000.1.2.2.2.2.2.2.2.2.1, ())))), ((u100000.2.1.1, (u100000.2.1.2.1, ())), ())))
     else
     if (u100000.1.2.2.2.2.2.2.2.2.2.1 == (18 : Int)) = true then
      (F_bp (u100000.1.2.2.2.2.2.1, ())).bind fun r65 =>
      (F_bp (u100000.1.2.2.2.2.2.2.1, ())).bind fun r66 =>
      if (ltI r65.1.1 r66.1.1) then
      some (.inl (((), ((), (u100000.1.2.2.2.2.1, (u100000.1.2.2.2.2.2.2.2.2.1, ())))), ((u100000.2.1.1, (u100000.2.1.2.1, ())), ())))
      else
      some (.inl (((), ((), (u100000.1.2.2.2.1, (u100000.1.2.2.2.2.2.2.2.2.1, ())))), ((u100000.2.1.1, (u100000.2.1.2.1, ())), ())))
     else
      some (.inl (((), ((), (u100000.1.2.2.2.1, (u100000.1.2.2.2.2.2.2.2.2.1, ())))), ((u100000.2.1.1, (u100000.2.1.2.1, ())), ())))
    else
    if (u100000.1.2.2.2.2.2.2.2.2.2.2.1 == (19 : Int)) then
     some (.inl (((), ((), (u100000.1.2.2.2.2.1, (u100000.1.2.2.2.1, ())))), ((u100000.2.1.1, (u100000.2.1.2.1, ())), ())))
    else
     if (u100000.1.2.2.2.2.2.2.2.2.2.2.1 == (20 : Int)) then
     some (.inl (((), ((), (u100000.1.2.2.2.2.2.2.2.1, (u100000.1.2.2.2.1, ())))), ((u100000.2.1.1, (u100000.2.1.2.1, ())), ())))
     else
     if (u100000.1.2.2.2.2.2.2.2.2.2.2.1 == (21 : Int)) then
      (F_bq ((u100000.2.1.2.1.1, (u100000.2.1.2.1.2.1, (u100000.2.1.2.1.2.2.1, (u100000.2.1.2.1.2.2.2.1, (u100000.2.1.2.1.2.2.2.2.1, (u100000.2.1.2.1.2.2.2.2.2.1, (u100000.2.1.2.1.2.2.2.2.2.2.1, (u100000.2.1.2.1.2.2.2.2.2.2.2.1, (u100000.2.1.2.1.2.2.2.2.2.2.2.2.1, ()))))))))), u100000.2.1.1.2.2.2.1, ())).bind fun r67 =>
      some (.inl (((), ((), (u100000.1.2.2.2.1, (r67.1.1, ())))), ((u100000.2.1.1, (u100000.2.1.2.1, ())), ())))
     else
      if (u100000.1.2.2.2.2.2.2.2.2.2.2.1 == (22 : Int)) then
      (F_bm ((u100000.2.1.2.1.1, (u100000.2.1.2.1.2.1, (u100000.2.1.2.1.2.2.1, (u100000.2.1.2.1.2.2.2.1, (u100000.2.1.2.1.2.2.2.2.1, (u100000.2.1.2.1.2.2.2.2.2.1, (u100000.2.1.2.1.2.2.2.2.2.2.1, (u100000.2.1.2.1.2.2.2.2.2.2.2.1, (u100000.2.1.2.1.2.2.2.2.2.2.2.2.1, ()))))))))), u100000.2.1.1.2.2.2.1, u100000.1.2.2.2.2.2.2.1, ())).bind fun r68 =>
      some (.inl (((), ((), (u100000.1.2.2.2.1, (u100000.1.2.2.2.2.2.2.2.2.1, ())))), ((u100000.2.1.1, ((r68.2.1.1, (r68.2.1.2.1, (r68.2.1.2.2.1, (r68.2.1.2.2.2.1, (r68.2.1.2.2.2.2.1, (r68.2.1.2.2.2.2.2.1, (r68.2.1.2.2.2.2.2.2.1, (r68.2.1.2.2.2.2.2.2.2.1, (r68.2.1.2.2.2.2.2.2.2.2.1, (u100000.2.1.2.1.2.2.2.2.2.2.2.2.2.1, (u100000.2.1.2.1.2.2.2.2.2.2.2.2.2.2.1, (u100000.2.1.2.1.2.2.2.2.2.2.2.2.2.2.2.1, (u100000.2.1.2.1.2.2.2.2.2.2.2.2.2.2.2.2.1, ()))))))))))))), ())), ())))
      else
      if (u100000.1.2.2.2.2.2.2.2.2.2.2.1 == (23 : Int)) then
       (F_av (u100000.2.1.2.1, (5 : Int), (0 : Int), ())).bind fun r69 =>
       some (.inr (.inl ((false, ()), ((r69.2.1, ()), ()))))
      else
       if (u100000.1.2.2.2.2.2.2.2.2.2.2.1 == (24 : Int)) then
       (F_br ((u100000.2.1.2.1.1, (u100000.2.1.2.1.2.1, (u100000.2.1.2.1.2.2.1, (u100000.2.1.2.1.2.2.2.1, (u100000.2.1.2.1.2.2.2.2.1, (u100000.2.1.2.1.2.2.2.2.2.1, (u100000.2.1.2.1.2.2.2.2.2.2.1, (u100000.2.1.2.1.2.2.2.2.2.2.2.1, (u100000.2.1.2.1.2.2.2.2.2.2.2.2.1, ()))))))))), ())).bind fun r70 =>
       some (.inl (((), ((), (r70.2.1.2.1, (u100000.1.2.2.2.2.2.2.2.2.1, ())))), ((u100000.2.1.1, ((r70.2.1.1, (r70.2.1.2.1, (r70.2.1.2.2.1, (r70.2.1.2.2.2.1, (r70.2.1.2.2.2.2.1, (r70.2.1.2.2.2.2.2.1, (r70.2.1.2.2.2.2.2.2.1, (r70.2.1.2.2.2.2.2.2.2.1, (r70.2.1.2.2.2.2.2.2.2.2.1, (u100000.2.1.2.1.2.2.2.2.2.2.2.2.2.1, (u100000.2.1.2.1.2.2.2.2.2.2.2.2.2.2.1, (u100000.2.1.2.1.2.2.2.2.2.2.2.2.2.2.2.1, (u100000.2.1.2.1.2.2.2.2.2.2.2.2.2.2.2.2.1, ()))))))))))))), ())), ())))
       else
       if (u100000.1.2.2.2.2.2.2.2.2.2.2.1 == (25 : Int)) then
        some (.inl (((), ((), (u100000.1.2.2.2.1, (u100000.1.2.2.2.2.2.2.2.2.1, ())))), ((u100000.2.1.1, ((u100000.2.1.2.1.1, (u100000.2.1.2.1.2.1, (u100000.2.1.2.1.2.2.1, (u100000.2.1.2.1.2.2.2.1, (true, (u100000.2.1.2.1.2.2.2.2.2.1, (u100000.2.1.2.1.2.2.2.2.2.2.1, (u100000.2.1.2.1.2.2.2.2.2.2.2.1, (u100000.2.1.2.1.2.2.2.2.2.2.2.2.1, (u100000.2.1.2.1.2.2.2.2.2.2.2.2.2.1, (u100000.2.1.2.1.2.2.2.2.2.2.2.2.2.2.1, (u100000.2.1.2.1.2.2.2.2.2.2.2.2.2.2.2.1, (u100000.2.1.2.1.2.2.2.2.2.2.2.2.2.2.2.2.1, ()))))))))))))), ())), ())))
       else
        if (u100000.1.2.2.2.2.2.2.2.2.2.2.1 == (26 : Int)) then
        some (.inl (((), ((), (u100000.1.2.2.1, (u100000.1.2.2.2.2.2.2.2.2.1, ())))), ((u100000.2.1.1, ((u100000.2.1.2.1.1, (u100000.2.1.2.1.2.1, (u100000.2.1.2.1.2.2.1, (true, (u100000.2.1.2.1.2.2.2.2.1, (u100000.2.1.2.1.2.2.2.2.2.1, (u100000.2.1.2.1.2.2.2.2.2.2.1, (u100000.2.1.2.1.2.2.2.2.2.2.2.1, (u100000.2.1.2.1.2.2.2.2.2.2.2.2.1, (u100000.2.1.2.1.2.2.2.2.2.2.2.2.2.1, (u100000.2.1.2.1.2.2.2.2.2.2.2.2.2.2.1, (u100000.2.1.2.1.2.2.2.2.2.2.2.2.2.2.2.1, (u100000.2.1.2.1.2.2.2.2.2.2.2.2.2.2.2.2.1, ()))))))))))))), ())), ())))
        else
        if 0 ≤ u100000.2.1.1.2.2.2.1 ∧ u100000.2.1.1.2.2.2.1 < ((u100000.2.1.2.1.1.length : Nat) : Int) then
         ((u100000.2.1.2.1.1)[(u100000.2.1.1.2.2.2.1).toNat]?).bind fun y71 =>
         (F_bx (u100000.1.2.2.2.2.2.2.2.2.2.1, u100000.1.2.2.2.2.2.2.1, y71, ())).bind fun r72 =>
         some (.inl (((), ((), (u100000.1.2.2.2.1, (r72.1.1.2.1, ())))), ((u100000.2.1.1, (u100000.2.1.2.1, ())), ())))
        else none
def F_bz (x : denP P_bz) : Option (denV R_bz × denQ P_bz) :=
 (F_bi (x.1.2.1, (1 : Int), ())).bind fun r1 =>
 (F_bj (x.2.1.2.2.2.1, ())).bind fun r2 =>
 (F_bi (x.1.2.1, r2.1.1, ())).bind fun r3 =>
 if 0 ≤ x.2.1.2.1 ∧ x.2.1.2.1 < ((x.1.1.length : Nat) : Int) then
 ((x.1.1)[(x.2.1.2.1).toNat]?).bind fun y4 =>
 if 0 ≤ x.2.1.2.2.1 ∧ x.2.1.2.2.1 < ((x.1.1.length : Nat) : Int) then
  ((x.1.1)[(x.2.1.2.2.1).toNat]?).bind fun y5 =>
  (F_bj (x.2.1.2.2.2.1, ())).bind fun r6 =>
  (F_bi (y5, r6.1.1, ())).bind fun r7 =>
  (L_bz_100000 (((), ((), (x.1.2.1, (r1.1.1, (r3.1.1, (y4, (y5, (r7.1.1, ((0 : Int), (x.2.1.1, (x.2.1.1, ()))))))))))), (((x.2.1.1, (x.2.1.2.1, (x.2.1.2.2.1, (x.2.1.2.2.2.1, ())))), (x.1, ())), ()))).bind fun z73 =>
  match z73 with
  | .inl x74 =>
  (F_by (x74.2.1.1.1, ())).bind fun r75 =>
  if r75.1.1 = true then
   if (ltI (0 : Int) x74.2.1.1.2.1) then
   if 0 ≤ x74.2.1.1.2.1 ∧ x74.2.1.1.2.1 < ((x74.2.1.2.1.1.length : Nat) : Int) then
    ((x74.2.1.2.1.1)[(x74.2.1.1.2.1).toNat]?).bind fun y76 =>
    let v77 := (x74.2.1.2.1.1.set (x74.2.1.1.2.1).toNat x74.1.2.2.2.1)
    let v78 := (IntKind.i64.wrap (x74.2.1.2.1.2.2.2.2.2.2.1 + (1 : Int)))
    let v79 := (if (1000000000 : Int) < v78 then (1000000000 : Int) else v78)
    some ((true, ()), ((v77, (x74.1.2.2.1, (x74.2.1.2.1.2.2.1, (x74.2.1.2.1.2.2.2.1, (x74.2.1.2.1.2.2.2.2.1, (x74.2.1.2.1.2.2.2.2.2.1, (v79, (x74.2.1.2.1.2.2.2.2.2.2.2.1, (x74.2.1.2.1.2.2.2.2.2.2.2.2.1, (x74.2.1.2.1.2.2.2.2.2.2.2.2.2.1, (x74.2.1.2.1.2.2.2.2.2.2.2.2.2.2.1, (x74.2.1.2.1.2.2.2.2.2.2.2.2.2.2.2.1, (x74.2.1.2.1.2.2.2.2.2.2.2.2.2.2.2.2.1, ()))))))))))))), ()))
   else none
   else
   let v80 := (IntKind.i64.wrap (x74.2.1.2.1.2.2.2.2.2.2.1 + (1 : Int)))
   let v81 := (if (1000000000 : Int) < v80 then (1000000000 : Int) else v80)
   some ((true, ()), ((x74.2.1.2.1.1, (x74.1.2.2.1, (x74.2.1.2.1.2.2.1, (x74.2.1.2.1.2.2.2.1, (x74.2.1.2.1.2.2.2.2.1, (x74.2.1.2.1.2.2.2.2.2.1, (v81, (x74.2.1.2.1.2.2.2.2.2.2.2.1, (x74.2.1.2.1.2.2.2.2.2.2.2.2.1, (x74.2.1.2.1.2.2.2.2.2.2.2.2.2.1, (x74.2.1.2.1.2.2.2.2.2.2.2.2.2.2.1, (x74.2.1.2.1.2.2.2.2.2.2.2.2.2.2.2.1, (x74.2.1.2.1.2.2.2.2.2.2.2.2.2.2.2.2.1, ()))))))))))))), ()))
  else
   let v82 := (IntKind.i64.wrap (x74.2.1.2.1.2.2.2.2.2.2.1 + (1 : Int)))
   let v83 := (if (1000000000 : Int) < v82 then (1000000000 : Int) else v82)
   some ((true, ()), ((x74.2.1.2.1.1, (x74.1.2.2.1, (x74.2.1.2.1.2.2.1, (x74.2.1.2.1.2.2.2.1, (x74.2.1.2.1.2.2.2.2.1, (x74.2.1.2.1.2.2.2.2.2.1, (v83, (x74.2.1.2.1.2.2.2.2.2.2.2.1, (x74.2.1.2.1.2.2.2.2.2.2.2.2.1, (x74.2.1.2.1.2.2.2.2.2.2.2.2.2.1, (x74.2.1.2.1.2.2.2.2.2.2.2.2.2.2.1, (x74.2.1.2.1.2.2.2.2.2.2.2.2.2.2.2.1, (x74.2.1.2.1.2.2.2.2.2.2.2.2.2.2.2.2.1, ()))))))))))))), ()))
  | .inr z73_ =>
  match z73_ with
  | .inl x84 =>
   some ((x84.1.1, ()), (x84.2.1.1, ()))
  | .inr z73__ =>
   none
 else none
 else none
abbrev C_bz : Con := ⟨P_bz, R_bz, F_bz, false⟩
abbrev G_bz : Env := [(27, C_bi), (28, C_bj), (215, C_av), (262, C_bl), (263, C_bo), (264, C_bp), (265, C_bq), (266, C_bm), (267, C_br), (268, C_bx), (269, C_by)]
theorem g_bz : EnvOk Tryz.prog G_bz := (env_cons s_bi (env_cons s_bj (env_cons s_av (env_cons s_bl (env_cons s_bo (env_cons s_bp (env_cons s_bq (env_cons s_bm (env_cons s_br (env_cons s_bx (env_cons s_by env_nil)))))))))))
abbrev c_bz_100000 : Cut := ⟨i_bz_100000, o_bz_100000, L_bz_100000⟩
theorem t_bz_100000 (x) : run T G_bz [] (nav Tryz.f216 [1, 1, 1, 1, 1, 1, 0, 1, 1, 0]) (mk 214 i_bz_100000 x) (blockK 0 o_bz_100000) = L_bz_100000 x := by kernel_rfl
theorem k_bz_100000 : CutOk Tryz.prog 214 (.block 0 (nav Tryz.f216 [1, 1, 1, 1, 1, 1, 0, 1, 1, 0])) c_bz_100000 :=
 block_cut (L := []) hT g_bz t_bz_100000 (plain_ok (by kernel_rfl))
theorem r_bz (x) : runFn T G_bz [(100000, c_bz_100000)] Tryz.f216 P_bz R_bz x = F_bz x := by kernel_rfl
theorem s_bz : CallsOk Tryz.prog 216 C_bz :=
 fn_calls (L := [(100000, c_bz_100000)]) hT g_bz Tryz.f216 (by kernel_rfl) (by kernel_rfl) (by kernel_rfl) (seq_ok (plain_ok (by kernel_rfl)) (seq_ok (plain_ok (by kernel_rfl)) (seq_ok (plain_ok (by kernel_rfl)) (seq_ok (plain_ok (by kernel_rfl)) (seq_ok (plain_ok (by kernel_rfl)) (seq_ok (plain_ok (by kernel_rfl)) (seq_ok (seq_ok (plain_ok (by kernel_rfl)) (seq_ok (plain_ok (by kernel_rfl)) (blockc_ok (by kernel_rfl) k_bz_100000))) (plain_ok (by kernel_rfl))))))))) r_bz
/-! (*impl.core).step -/
abbrev P_ca : List PK := [.box [.own 2 YI, .dat YI, .own 2 YI, .dat .bool, .dat .bool, .dat .bool, .dat YI, .own 2 YI, .own 2 YI, .dat Y27, .own 2 YI, .dat YI, .dat YI] [.own 2 YI, .dat YI, .own 2 YI, .dat .bool, .dat .bool, .dat .bool, .dat YI, .own 2 YI, .own 2 YI, .dat Y27, .own 2 YI, .dat YI, .dat YI]]
abbrev R_ca : List VK := []
def F_ca (x : denP P_ca) : Option (denV R_ca × denQ P_ca) :=
 if x.1.2.2.2.1 then
 some ((), ((x.1.1, (x.1.2.1, (x.1.2.2.1, (x.1.2.2.2.1, (x.1.2.2.2.2.1, (x.1.2.2.2.2.2.1, (x.1.2.2.2.2.2.2.1, (x.1.2.2.2.2.2.2.2.1, (x.1.2.2.2.2.2.2.2.2.1, (x.1.2.2.2.2.2.2.2.2.2.1, (x.1.2.2.2.2.2.2.2.2.2.2.1, ((-1 : Int), ((-1 : Int), ()))))))))))))), ()))
 else
 (F_at ((x.1.1, (x.1.2.1, (x.1.2.2.1, (x.1.2.2.2.1, (x.1.2.2.2.2.1, (x.1.2.2.2.2.2.1, (x.1.2.2.2.2.2.2.1, (x.1.2.2.2.2.2.2.2.1, (x.1.2.2.2.2.2.2.2.2.1, ()))))))))), ())).bind fun r1 =>
 if (leI (0 : Int) r1.1.1) then
  let v2 := (IntKind.i64.wrap ((16 : Int) + r1.1.1))
  (F_av ((x.1.1, (x.1.2.1, (x.1.2.2.1, (x.1.2.2.2.1, (x.1.2.2.2.2.1, (x.1.2.2.2.2.2.1, (x.1.2.2.2.2.2.2.1, (x.1.2.2.2.2.2.2.2.1, (x.1.2.2.2.2.2.2.2.2.1, (x.1.2.2.2.2.2.2.2.2.2.1, (x.1.2.2.2.2.2.2.2.2.2.2.1, ((-1 : Int), ((-1 : Int), ()))))))))))))), v2, (0 : Int), ())).bind fun r3 =>
  some ((), (r3.2.1, ()))
 else
  if x.1.2.2.2.2.1 then
  (F_ar ((x.1.1, (x.1.2.1, (x.1.2.2.1, (x.1.2.2.2.1, (x.1.2.2.2.2.1, (x.1.2.2.2.2.2.1, (x.1.2.2.2.2.2.2.1, (x.1.2.2.2.2.2.2.2.1, (x.1.2.2.2.2.2.2.2.2.1, ()))))))))), ())).bind fun r4 =>
  if 0 ≤ (7 : Int) ∧ (7 : Int) < ((x.1.2.2.1.length : Nat) : Int) then
   ((x.1.2.2.1)[((7 : Int)).toNat]?).bind fun y5 =>
   let v6 := (iand .i64 r4.1.1 y5)
   if (v6 == (0 : Int)) then
   some ((), ((x.1.1, (x.1.2.1, (x.1.2.2.1, (x.1.2.2.2.1, (x.1.2.2.2.2.1, (x.1.2.2.2.2.2.1, (x.1.2.2.2.2.2.2.1, (x.1.2.2.2.2.2.2.2.1, (x.1.2.2.2.2.2.2.2.2.1, (x.1.2.2.2.2.2.2.2.2.2.1, (x.1.2.2.2.2.2.2.2.2.2.2.1, ((-1 : Int), ((-1 : Int), ()))))))))))))), ()))
   else
   (F_be ((x.1.1, (x.1.2.1, (x.1.2.2.1, (x.1.2.2.2.1, (false, (x.1.2.2.2.2.2.1, (x.1.2.2.2.2.2.2.1, (x.1.2.2.2.2.2.2.2.1, (x.1.2.2.2.2.2.2.2.2.1, ()))))))))), x.1.2.2.2.2.2.2.2.2.2.1, x.1.2.2.2.2.2.2.2.2.2.2.1, x.1.2.1, (4 : Int), ())).bind fun r7 =>
   if (r7.1.1.1 != (0 : Int)) then
    (F_av ((x.1.1, (x.1.2.1, (x.1.2.2.1, (x.1.2.2.2.1, (false, (x.1.2.2.2.2.2.1, (x.1.2.2.2.2.2.2.1, (x.1.2.2.2.2.2.2.2.1, (x.1.2.2.2.2.2.2.2.2.1, (x.1.2.2.2.2.2.2.2.2.2.1, (x.1.2.2.2.2.2.2.2.2.2.2.1, ((-1 : Int), ((-1 : Int), ()))))))))))))), (2 : Int), x.1.2.1, ())).bind fun r8 =>
    some ((), (r8.2.1, ()))
   else
    if 0 ≤ r7.1.1.2.1 ∧ r7.1.1.2.1 < ((x.1.2.2.2.2.2.2.2.2.2.2.1.length : Nat) : Int) then
    ((x.1.2.2.2.2.2.2.2.2.2.2.1)[(r7.1.1.2.1).toNat]?).bind fun y9 =>
    (F_bg (y9, ())).bind fun r10 =>
    if (r10.1.1.1 != (0 : Int)) then
     if 0 ≤ r7.1.1.2.1 ∧ r7.1.1.2.1 < ((x.1.2.2.2.2.2.2.2.2.2.2.1.length : Nat) : Int) then
     ((x.1.2.2.2.2.2.2.2.2.2.2.1)[(r7.1.1.2.1).toNat]?).bind fun y11 =>
     (F_av ((x.1.1, (x.1.2.1, (x.1.2.2.1, (x.1.2.2.2.1, (false, (x.1.2.2.2.2.2.1, (x.1.2.2.2.2.2.2.1, (x.1.2.2.2.2.2.2.2.1, (x.1.2.2.2.2.2.2.2.2.1, (x.1.2.2.2.2.2.2.2.2.2.1, (x.1.2.2.2.2.2.2.2.2.2.2.1, ((-1 : Int), ((-1 : Int), ()))))))))))))), (1 : Int), y11, ())).bind fun r12 =>
     some ((), (r12.2.1, ()))
     else none
    else
     (F_bz ((x.1.1, (x.1.2.1, (x.1.2.2.1, (x.1.2.2.2.1, (false, (x.1.2.2.2.2.2.1, (x.1.2.2.2.2.2.2.1, (x.1.2.2.2.2.2.2.2.1, (x.1.2.2.2.2.2.2.2.2.1, (x.1.2.2.2.2.2.2.2.2.2.1, (x.1.2.2.2.2.2.2.2.2.2.2.1, ((-1 : Int), ((-1 : Int), ()))))))))))))), r10.1.1.2.1, ())).bind fun r13 =>
     some ((), (r13.2.1, ()))
    else none
  else none
  else
  (F_be ((x.1.1, (x.1.2.1, (x.1.2.2.1, (x.1.2.2.2.1, (x.1.2.2.2.2.1, (x.1.2.2.2.2.2.1, (x.1.2.2.2.2.2.2.1, (x.1.2.2.2.2.2.2.2.1, (x.1.2.2.2.2.2.2.2.2.1, ()))))))))), x.1.2.2.2.2.2.2.2.2.2.1, x.1.2.2.2.2.2.2.2.2.2.2.1, x.1.2.1, (4 : Int), ())).bind fun r14 =>
  if (r14.1.1.1 != (0 : Int)) then
   (F_av ((x.1.1, (x.1.2.1, (x.1.2.2.1, (x.1.2.2.2.1, (x.1.2.2.2.2.1, (x.1.2.2.2.2.2.1, (x.1.2.2.2.2.2.2.1, (x.1.2.2.2.2.2.2.2.1, (x.1.2.2.2.2.2.2.2.2.1, (x.1.2.2.2.2.2.2.2.2.2.1, (x.1.2.2.2.2.2.2.2.2.2.2.1, ((-1 : Int), ((-1 : Int), ()))))))))))))), (2 : Int), x.1.2.1, ())).bind fun r15 =>
   some ((), (r15.2.1, ()))
  else
   if 0 ≤ r14.1.1.2.1 ∧ r14.1.1.2.1 < ((x.1.2.2.2.2.2.2.2.2.2.2.1.length : Nat) : Int) then
   ((x.1.2.2.2.2.2.2.2.2.2.2.1)[(r14.1.1.2.1).toNat]?).bind fun y16 =>
   (F_bg (y16, ())).bind fun r17 =>
   if (r17.1.1.1 != (0 : Int)) then
    if 0 ≤ r14.1.1.2.1 ∧ r14.1.1.2.1 < ((x.1.2.2.2.2.2.2.2.2.2.2.1.length : Nat) : Int) then
    ((x.1.2.2.2.2.2.2.2.2.2.2.1)[(r14.1.1.2.1).toNat]?).bind fun y18 =>
    (F_av ((x.1.1, (x.1.2.1, (x.1.2.2.1, (x.1.2.2.2.1, (x.1.2.2.2.2.1, (x.1.2.2.2.2.2.1, (x.1.2.2.2.2.2.2.1, (x.1.2.2.2.2.2.2.2.1, (x.1.2.2.2.2.2.2.2.2.1, (x.1.2.2.2.2.2.2.2.2.2.1, (x.1.2.2.2.2.2.2.2.2.2.2.1, ((-1 : Int), ((-1 : Int), ()))))))))))))), (1 : Int), y18, ())).bind fun r19 =>
    some ((), (r19.2.1, ()))
    else none
   else
    (F_bz ((x.1.1, (x.1.2.1, (x.1.2.2.1, (x.1.2.2.2.1, (x.1.2.2.2.2.1, (x.1.2.2.2.2.2.1, (x.1.2.2.2.2.2.2.1, (x.1.2.2.2.2.2.2.2.1, (x.1.2.2.2.2.2.2.2.2.1, (x.1.2.2.2.2.2.2.2.2.2.1, (x.1.2.2.2.2.2.2.2.2.2.2.1, ((-1 : Int), ((-1 : Int), ()))))))))))))), r17.1.1.2.1, ())).bind fun r20 =>
    some ((), (r20.2.1, ()))
   else none
abbrev C_ca : Con := ⟨P_ca, R_ca, F_ca, false⟩
abbrev G_ca : Env := [(64, C_bg), (67, C_at), (69, C_be), (158, C_ar), (215, C_av), (216, C_bz)]
theorem g_ca : EnvOk Tryz.prog G_ca := (env_cons s_bg (env_cons s_at (env_cons s_be (env_cons s_ar (env_cons s_av (env_cons s_bz env_nil))))))
theorem r_ca (x) : runFn T G_ca [] Tryz.f140 P_ca R_ca x = F_ca x := by kernel_rfl
theorem s_ca : CallsOk Tryz.prog 140 C_ca :=
 fn_calls (L := []) hT g_ca Tryz.f140 (by kernel_rfl) (by kernel_rfl) (by kernel_rfl) (plain_ok (by kernel_rfl)) r_ca
/-! impl.stepped -/
abbrev P_cb : List PK := [.val Y25, .val Y27, .val Y24, .val YI]
abbrev R_cb : List VK := [.g [.dat YI, .dat YI, .dat YI, .own 2 YI, .dat YI, .own 2 YI, .dat .bool, .dat .bool, .dat .bool, .dat YI, .own 2 YI, .own 2 YI, .own 2 YI]]
abbrev i_cb_4 : Shp := { slots := [(8, .s (.ptr 8 0)), (9, .s (.ptr 9 0)), (10, .s (.dat YI)), (11, .s (.dat YI)), (18, .s (.dat YI)), (19, .s (.dat YI))], boxes := [(8, [.dat YI, .dat YI, .dat YI, .own 2 YI, .dat YI, .own 2 YI, .dat .bool, .dat .bool, .dat .bool, .dat YI, .own 2 YI, .own 2 YI, .own 2 YI]), (9, [.own 2 YI, .dat YI, .own 2 YI, .dat .bool, .dat .bool, .dat .bool, .dat YI, .own 2 YI, .own 2 YI, .dat Y27, .own 2 YI, .dat YI, .dat YI])], rows := [] }
abbrev o_cb_4 : List (Ex × Shp) := [(.exit 0, { slots := [(8, .s (.ptr 8 0)), (9, .s (.ptr 9 0)), (10, .s (.dat YI)), (11, .s (.dat YI))], boxes := [(8, [.dat YI, .dat YI, .dat YI, .own 2 YI, .dat YI, .own 2 YI, .dat .bool, .dat .bool, .dat .bool, .dat YI, .own 2 YI, .own 2 YI, .own 2 YI]), (9, [.own 2 YI, .dat YI, .own 2 YI, .dat .bool, .dat .bool, .dat .bool, .dat YI, .own 2 YI, .own 2 YI, .dat Y27, .own 2 YI, .dat YI, .dat YI])], rows := [] })]
def l_cb_4 (rec : i_cb_4.den → Option (denO o_cb_4)) (u4 : i_cb_4.den) : Option (denO o_cb_4) :=
 if (ltI u4.1.2.2.2.2.2.1 u4.1.2.2.2.2.1) then
 (F_ca (u4.2.1.2.1, ())).bind fun r4 =>
 if (leI (0 : Int) r4.2.1.2.2.2.2.2.2.2.2.2.2.2.1) then
  if (leI (0 : Int) r4.2.1.2.2.2.2.2.2.2.2.2.2.2.2.1) then
  let v5 := (IntKind.i64.wrap (u4.1.2.2.2.2.2.1 + (1 : Int)))
  rec (((), ((), (r4.2.1.2.2.2.2.2.2.2.2.2.2.2.1, (r4.2.1.2.2.2.2.2.2.2.2.2.2.2.2.1, (u4.1.2.2.2.2.1, (v5, ())))))), ((u4.2.1.1, (r4.2.1, ())), ()))
  else
  let v6 := (IntKind.i64.wrap (u4.1.2.2.2.2.2.1 + (1 : Int)))
  rec (((), ((), (r4.2.1.2.2.2.2.2.2.2.2.2.2.2.1, (u4.1.2.2.2.1, (u4.1.2.2.2.2.1, (v6, ())))))), ((u4.2.1.1, (r4.2.1, ())), ()))
 else
  if (leI (0 : Int) r4.2.1.2.2.2.2.2.2.2.2.2.2.2.2.1) then
  let v7 := (IntKind.i64.wrap (u4.1.2.2.2.2.2.1 + (1 : Int)))
  rec (((), ((), (u4.1.2.2.1, (r4.2.1.2.2.2.2.2.2.2.2.2.2.2.2.1, (u4.1.2.2.2.2.1, (v7, ())))))), ((u4.2.1.1, (r4.2.1, ())), ()))
  else
  let v8 := (IntKind.i64.wrap (u4.1.2.2.2.2.2.1 + (1 : Int)))
  rec (((), ((), (u4.1.2.2.1, (u4.1.2.2.2.1, (u4.1.2.2.2.2.1, (v8, ())))))), ((u4.2.1.1, (r4.2.1, ())), ()))
 else
 some (.inl (((), ((), (u4.1.2.2.1, (u4.1.2.2.2.1, ())))), ((u4.2.1.1, (u4.2.1.2.1, ())), ())))
def L_cb_4 (x : i_cb_4.den) : Option (denO o_cb_4) := iterF l_cb_4 lots x
def F_cb (x : denP P_cb) : Option (denV R_cb × denQ P_cb) :=
 (F_aq (x.1, ())).bind fun r1 =>
 (F_ap (x.2.2.1, ())).bind fun r2 =>
 (L_cb_4 (((), ((), ((-1 : Int), ((-1 : Int), (x.2.2.2.1, ((0 : Int), ())))))), ((((0 : Int), ((0 : Int), ((0 : Int), (([] : List (den YI)), ((0 : Int), (([] : List (den YI)), (false, (false, (false, ((0 : Int), (([] : List (den YI)), (([] : List (den YI)), (([] : List (den YI)), ()))))))))))))), ((r1.1.1.1, (r1.1.1.2.1, (r1.1.1.2.2.1, (r1.1.1.2.2.2.1, (r1.1.1.2.2.2.2.1, (r1.1.1.2.2.2.2.2.1, (r1.1.1.2.2.2.2.2.2.1, (r1.1.1.2.2.2.2.2.2.2.1, (r1.1.1.2.2.2.2.2.2.2.2.1, (x.2.1, (r2.1.1, ((0 : Int), ((0 : Int), ()))))))))))))), ())), ()))).bind fun z9 =>
 match z9 with
 | .inl x10 =>
 some ((((0 : Int), (x10.1.2.2.1, (x10.1.2.2.2.1, (x10.2.1.2.1.1, (x10.2.1.2.1.2.1, (x10.2.1.2.1.2.2.1, (x10.2.1.2.1.2.2.2.1, (x10.2.1.2.1.2.2.2.2.1, (x10.2.1.2.1.2.2.2.2.2.1, (x10.2.1.2.1.2.2.2.2.2.2.1, (x10.2.1.2.1.2.2.2.2.2.2.2.1, (x10.2.1.2.1.2.2.2.2.2.2.2.2.1, (x10.2.1.2.1.2.2.2.2.2.2.2.2.2.2.1, ()))))))))))))), ()), ())
 | .inr z9_ =>
 none
abbrev C_cb : Con := ⟨P_cb, R_cb, F_cb, false⟩
abbrev G_cb : Env := [(83, C_aq), (139, C_ap), (140, C_ca)]
theorem g_cb : EnvOk Tryz.prog G_cb := (env_cons s_aq (env_cons s_ap (env_cons s_ca env_nil)))
abbrev c_cb_4 : Cut := ⟨i_cb_4, o_cb_4, fun x => iterF l_cb_4 lots x⟩
theorem t_cb_4 (rec x) : run T G_cb [] (nav Tryz.f57 [1, 1, 1, 0, 1, 0, 0]) (mk 40 i_cb_4 x) (loopK i_cb_4 o_cb_4 rec) = l_cb_4 rec x := by kernel_rfl
theorem k_cb_4 : CutOk Tryz.prog 40 (.loop (nav Tryz.f57 [1, 1, 1, 0, 1, 0, 0])) c_cb_4 :=
 loop_cut (L := []) hT g_cb t_cb_4 (plain_ok (by kernel_rfl)) _
theorem r_cb (x) : runFn T G_cb [(4, c_cb_4)] Tryz.f57 P_cb R_cb x = F_cb x := by kernel_rfl
theorem s_cb : CallsOk Tryz.prog 57 C_cb :=
 fn_calls (L := [(4, c_cb_4)]) hT g_cb Tryz.f57 (by kernel_rfl) (by kernel_rfl) (by kernel_rfl) (seq_ok (plain_ok (by kernel_rfl)) (seq_ok (plain_ok (by kernel_rfl)) (seq_ok (plain_ok (by kernel_rfl)) (seq_ok (seq_ok (plain_ok (by kernel_rfl)) (block_ok (by kernel_rfl) (loop_ok (by kernel_rfl) k_cb_4))) (plain_ok (by kernel_rfl)))))) r_cb
/-! impl.StepMany -/
abbrev P_cc : List PK := [.val Y25, .val Y27, .val Y24, .val YI]
abbrev R_cc : List VK := [.g [.dat YI, .dat YI, .dat YI, .own 2 YI, .dat YI, .own 2 YI, .dat .bool, .dat .bool, .dat .bool, .dat YI, .own 2 YI, .own 2 YI, .own 2 YI]]
def F_cc (x : denP P_cc) : Option (denV R_cc × denQ P_cc) :=
 (F_al (x.1, x.2.1, x.2.2.1, ())).bind fun r1 =>
 if (r1.1.1 == (0 : Int)) = true then
 (F_ab (x.2.2.2.1, (0 : Int), (500 : Int), ())).bind fun r2 =>
 if (!r2.1.1) then
  some ((((3 : Int), ((0 : Int), ((0 : Int), (([] : List (den YI)), ((0 : Int), (([] : List (den YI)), (false, (false, (false, ((0 : Int), (([] : List (den YI)), (([] : List (den YI)), (([] : List (den YI)), ()))))))))))))), ()), ())
 else
  if (r1.1.1 != (0 : Int)) then
  some (((r1.1.1, ((0 : Int), ((0 : Int), (([] : List (den YI)), ((0 : Int), (([] : List (den YI)), (false, (false, (false, ((0 : Int), (([] : List (den YI)), (([] : List (den YI)), (([] : List (den YI)), ()))))))))))))), ()), ())
  else
  (F_cb (x.1, x.2.1, x.2.2.1, x.2.2.2.1, ())).bind fun r3 =>
  some ((r3.1.1, ()), ())
 else
 if (r1.1.1 != (0 : Int)) then
  some (((r1.1.1, ((0 : Int), ((0 : Int), (([] : List (den YI)), ((0 : Int), (([] : List (den YI)), (false, (false, (false, ((0 : Int), (([] : List (den YI)), (([] : List (den YI)), (([] : List (den YI)), ()))))))))))))), ()), ())
 else
  (F_cb (x.1, x.2.1, x.2.2.1, x.2.2.2.1, ())).bind fun r4 =>
  some ((r4.1.1, ()), ())
abbrev C_cc : Con := ⟨P_cc, R_cc, F_cc, false⟩
abbrev G_cc : Env := [(55, C_al), (56, C_ab), (57, C_cb)]
theorem g_cc : EnvOk Tryz.prog G_cc := (env_cons s_al (env_cons s_ab (env_cons s_cb env_nil)))
theorem r_cc (x) : runFn T G_cc [] Tryz.f13 P_cc R_cc x = F_cc x := by kernel_rfl
theorem s_cc : CallsOk Tryz.prog 13 C_cc :=
 fn_calls (L := []) hT g_cc Tryz.f13 (by kernel_rfl) (by kernel_rfl) (by kernel_rfl) (plain_ok (by kernel_rfl)) r_cc
/-! impl.StepHart -/
abbrev P_cd : List PK := [.val Y25, .val Y27, .val Y24]
abbrev R_cd : List VK := [.g [.dat YI, .dat YI, .dat YI, .own 2 YI, .dat YI, .own 2 YI, .dat .bool, .dat .bool, .dat .bool, .dat YI, .own 2 YI, .own 2 YI, .own 2 YI]]
def F_cd (x : denP P_cd) : Option (denV R_cd × denQ P_cd) :=
 (F_cc (x.1, x.2.1, x.2.2.1, (1 : Int), ())).bind fun r1 =>
 some ((r1.1.1, ()), ())
abbrev C_cd : Con := ⟨P_cd, R_cd, F_cd, false⟩
abbrev G_cd : Env := [(13, C_cc)]
theorem g_cd : EnvOk Tryz.prog G_cd := (env_cons s_cc env_nil)
theorem r_cd (x) : runFn T G_cd [] Tryz.f16 P_cd R_cd x = F_cd x := by kernel_rfl
theorem s_cd : CallsOk Tryz.prog 16 C_cd :=
 fn_calls (L := []) hT g_cd Tryz.f16 (by kernel_rfl) (by kernel_rfl) (by kernel_rfl) (plain_ok (by kernel_rfl)) r_cd
/-! spec.l8Fault -/
abbrev P_ce : List PK := [.ptr Y25]
abbrev R_ce : List VK := [.s (.dat YI)]
def F_ce (x : denP P_ce) : Option (denV R_ce × denQ P_ce) :=
 let v1 := ((x.1.1.length : Nat) : Int)
 if (v1 != (16 : Int)) = false then
 let v2 := ((x.1.2.2.1.length : Nat) : Int)
 if (v2 != (11 : Int)) = false then
  ((x.1.1)[((0 : Int)).toNat]?).bind fun y3 =>
  if (y3 != (0 : Int)) then
  some (((1 : Int), ()), ())
  else
  (F_f (x.1.1, ())).bind fun r4 =>
  if (!r4.1.1) = false then
   (F_e (x.1.2.1, ())).bind fun r5 =>
   if (!r5.1.1) = false then
   (F_f (x.1.2.2.1, ())).bind fun r6 =>
   if (!r6.1.1) = false then
    (F_f (x.1.2.2.2.2.2.2.2.1, ())).bind fun r7 =>
    if (!r7.1.1) = false then
    (F_f (x.1.2.2.2.2.2.2.2.2.1, ())).bind fun r8 =>
    if (!r8.1.1) then
     some (((3 : Int), ()), ())
    else
     let v9 := ((x.1.2.2.2.2.2.2.2.1.length : Nat) : Int)
     if (ltI (40 : Int) v9) = false then
     let v10 := ((x.1.2.2.2.2.2.2.2.2.1.length : Nat) : Int)
     if (ltI (40 : Int) v10) then
      some (((2 : Int), ()), ())
     else
      (F_d (x.1.2.2.2.2.2.2.1, (0 : Int), (1000000000 : Int), ())).bind fun r11 =>
      if (!r11.1.1) then
      some (((3 : Int), ()), ())
      else
      ((x.1.2.2.1)[((0 : Int)).toNat]?).bind fun y12 =>
      if (ltI (3 : Int) y12) = false then
       ((x.1.2.2.1)[((7 : Int)).toNat]?).bind fun y13 =>
       if (ltI (7 : Int) y13) = false then
       ((x.1.2.2.1)[((10 : Int)).toNat]?).bind fun y14 =>
       if (ltI (8 : Int) y14) = false then
        ((x.1.2.2.1)[((6 : Int)).toNat]?).bind fun y15 =>
        if (y15 != (0 : Int)) = false then
        ((x.1.2.2.1)[((8 : Int)).toNat]?).bind fun y16 =>
        if (y16 != (0 : Int)) then
         some (((1 : Int), ()), ())
        else
         some (((0 : Int), ()), ())
        else
        some (((1 : Int), ()), ())
       else
        some (((1 : Int), ()), ())
       else
       some (((1 : Int), ()), ())
      else
       some (((1 : Int), ()), ())
     else
     some (((2 : Int), ()), ())
    else
    some (((3 : Int), ()), ())
   else
    some (((3 : Int), ()), ())
   else
   some (((3 : Int), ()), ())
  else
   some (((3 : Int), ()), ())
 else
  some (((1 : Int), ()), ())
 else
 some (((1 : Int), ()), ())
abbrev C_ce : Con := ⟨P_ce, R_ce, F_ce, false⟩
abbrev G_ce : Env := [(59, C_d), (217, C_f), (218, C_e)]
theorem g_ce : EnvOk Tryz.prog G_ce := (env_cons s_d (env_cons s_f (env_cons s_e env_nil)))
theorem r_ce (x) : runFn T G_ce [] Tryz.f141 P_ce R_ce x = F_ce x := by kernel_rfl
theorem s_ce : CallsOk Tryz.prog 141 C_ce :=
 fn_calls (L := []) hT g_ce Tryz.f141 (by kernel_rfl) (by kernel_rfl) (by kernel_rfl) (plain_ok (by kernel_rfl)) r_ce
/-! spec.PagesFault -/
abbrev P_cf : List PK := [.val Y27, .val YI]
abbrev R_cf : List VK := [.s (.dat YI)]
abbrev i_cf_6 : Shp := { slots := [(0, .s (.dat Y27)), (1, .s (.dat YI)), (5, .s (.dat YI))], boxes := [], rows := [] }
abbrev o_cf_6 : List (Ex × Shp) := [(.exit 0, { slots := [], boxes := [], rows := [] }), (.ret, { slots := [(4, .s (.dat YI))], boxes := [], rows := [] })]
def l_cf_6 (rec : i_cf_6.den → Option (denO o_cf_6)) (u6 : i_cf_6.den) : Option (denO o_cf_6) :=
 let v9 := ((u6.1.1.length : Nat) : Int)
 if (ltI u6.1.2.2.1 v9) then
 if 0 ≤ u6.1.2.2.1 then
  ((u6.1.1)[(u6.1.2.2.1).toNat]?).bind fun y10 =>
  let v11 := (IntKind.i64.wrap (u6.1.2.1 - (1 : Int)))
  (F_d (y10.1, (-1 : Int), v11, ())).bind fun r12 =>
  if (!r12.1.1) = false then
  if 0 ≤ u6.1.2.2.1 then
   ((u6.1.1)[(u6.1.2.2.1).toNat]?).bind fun y13 =>
   (F_d (y13.2.1, (0 : Int), (7 : Int), ())).bind fun r14 =>
   if (!r14.1.1) then
   some (.inr (.inl (((3 : Int), ()), ((), ()))))
   else
   if 0 ≤ u6.1.2.2.1 then
    ((u6.1.1)[(u6.1.2.2.1).toNat]?).bind fun y15 =>
    if (ltI y15.1 (0 : Int)) = true then
    if 0 ≤ u6.1.2.2.1 then
     ((u6.1.1)[(u6.1.2.2.1).toNat]?).bind fun y16 =>
     if (y16.2.1 != (0 : Int)) then
     some (.inr (.inl (((1 : Int), ()), ((), ()))))
     else
     let v17 := (IntKind.i64.wrap (u6.1.2.2.1 + (1 : Int)))
     rec ((u6.1.1, (u6.1.2.1, (v17, ()))), ((), ()))
    else none
    else
    let v18 := (IntKind.i64.wrap (u6.1.2.2.1 + (1 : Int)))
    rec ((u6.1.1, (u6.1.2.1, (v18, ()))), ((), ()))
   else none
  else none
  else
  some (.inr (.inl (((3 : Int), ()), ((), ()))))
 else none
 else
 some (.inl ((), ((), ())))
def L_cf_6 (x : i_cf_6.den) : Option (denO o_cf_6) := iterF l_cf_6 lots x
def F_cf (x : denP P_cf) : Option (denV R_cf × denQ P_cf) :=
 (F_d (x.2.1, (1 : Int), (24 : Int), ())).bind fun r1 =>
 if (!r1.1.1) then
 some (((3 : Int), ()), ())
 else
 let v2 := ((x.1.length : Nat) : Int)
 if (v2 != (8 : Int)) then
  some (((1 : Int), ()), ())
 else
  (L_cf_6 ((x.1, (x.2.1, ((0 : Int), ()))), ((), ()))).bind fun z19 =>
  match z19 with
  | .inl x20 =>
  some (((0 : Int), ()), ())
  | .inr z19_ =>
  match z19_ with
  | .inl x21 =>
   some ((x21.1.1, ()), ())
  | .inr z19__ =>
   none
abbrev C_cf : Con := ⟨P_cf, R_cf, F_cf, false⟩
abbrev G_cf : Env := [(59, C_d)]
theorem g_cf : EnvOk Tryz.prog G_cf := (env_cons s_d env_nil)
abbrev c_cf_6 : Cut := ⟨i_cf_6, o_cf_6, fun x => iterF l_cf_6 lots x⟩
theorem t_cf_6 (rec x) : run T G_cf [] (nav Tryz.f142 [1, 1, 1, 0, 1, 0, 0]) (mk 50 i_cf_6 x) (loopK i_cf_6 o_cf_6 rec) = l_cf_6 rec x := by kernel_rfl
theorem k_cf_6 : CutOk Tryz.prog 50 (.loop (nav Tryz.f142 [1, 1, 1, 0, 1, 0, 0])) c_cf_6 :=
 loop_cut (L := []) hT g_cf t_cf_6 (plain_ok (by kernel_rfl)) _
theorem r_cf (x) : runFn T G_cf [(6, c_cf_6)] Tryz.f142 P_cf R_cf x = F_cf x := by kernel_rfl
theorem s_cf : CallsOk Tryz.prog 142 C_cf :=
 fn_calls (L := [(6, c_cf_6)]) hT g_cf Tryz.f142 (by kernel_rfl) (by kernel_rfl) (by kernel_rfl) (seq_ok (plain_ok (by kernel_rfl)) (seq_ok (plain_ok (by kernel_rfl)) (seq_ok (plain_ok (by kernel_rfl)) (seq_ok (seq_ok (plain_ok (by kernel_rfl)) (block_ok (by kernel_rfl) (loop_ok (by kernel_rfl) k_cf_6))) (plain_ok (by kernel_rfl)))))) r_cf
/-! spec.MemoryFault -/
abbrev P_cg : List PK := [.val Y24]
abbrev R_cg : List VK := [.s (.dat YI)]
abbrev i_cg_4 : Shp := { slots := [(0, .s (.dat Y24)), (3, .s (.dat YI))], boxes := [], rows := [] }
abbrev o_cg_4 : List (Ex × Shp) := [(.exit 0, { slots := [], boxes := [], rows := [] }), (.ret, { slots := [(2, .s (.dat YI))], boxes := [], rows := [] })]
def l_cg_4 (rec : i_cg_4.den → Option (denO o_cg_4)) (u4 : i_cg_4.den) : Option (denO o_cg_4) :=
 let v7 := ((u4.1.1.length : Nat) : Int)
 if (ltI u4.1.2.1 v7) then
 if 0 ≤ u4.1.2.1 then
  ((u4.1.1)[(u4.1.2.1).toNat]?).bind fun y8 =>
  (F_d (y8, (0 : Int), (4294967295 : Int), ())).bind fun r9 =>
  if (!r9.1.1) then
  some (.inr (.inl (((3 : Int), ()), ((), ()))))
  else
  let v10 := (IntKind.i64.wrap (u4.1.2.1 + (1 : Int)))
  rec ((u4.1.1, (v10, ())), ((), ()))
 else none
 else
 some (.inl ((), ((), ())))
def L_cg_4 (x : i_cg_4.den) : Option (denO o_cg_4) := iterF l_cg_4 lots x
def F_cg (x : denP P_cg) : Option (denV R_cg × denQ P_cg) :=
 let v1 := ((x.1.length : Nat) : Int)
 let v2 := ((v1).tmod (8 : Int))
 if (v2 != (0 : Int)) = false then
 let v3 := ((x.1.length : Nat) : Int)
 if (ltI v3 (8 : Int)) = false then
  let v4 := ((x.1.length : Nat) : Int)
  if (ltI (192 : Int) v4) then
  some (((1 : Int), ()), ())
  else
  (L_cg_4 ((x.1, ((0 : Int), ())), ((), ()))).bind fun z11 =>
  match z11 with
  | .inl x12 =>
   some (((0 : Int), ()), ())
  | .inr z11_ =>
   match z11_ with
   | .inl x13 =>
   some ((x13.1.1, ()), ())
   | .inr z11__ =>
   none
 else
  some (((1 : Int), ()), ())
 else
 some (((1 : Int), ()), ())
abbrev C_cg : Con := ⟨P_cg, R_cg, F_cg, false⟩
abbrev G_cg : Env := [(59, C_d)]
theorem g_cg : EnvOk Tryz.prog G_cg := (env_cons s_d env_nil)
abbrev c_cg_4 : Cut := ⟨i_cg_4, o_cg_4, fun x => iterF l_cg_4 lots x⟩
theorem t_cg_4 (rec x) : run T G_cg [] (nav Tryz.f143 [1, 1, 0, 1, 0, 0]) (mk 30 i_cg_4 x) (loopK i_cg_4 o_cg_4 rec) = l_cg_4 rec x := by kernel_rfl
theorem k_cg_4 : CutOk Tryz.prog 30 (.loop (nav Tryz.f143 [1, 1, 0, 1, 0, 0])) c_cg_4 :=
 loop_cut (L := []) hT g_cg t_cg_4 (plain_ok (by kernel_rfl)) _
theorem r_cg (x) : runFn T G_cg [(4, c_cg_4)] Tryz.f143 P_cg R_cg x = F_cg x := by kernel_rfl
theorem s_cg : CallsOk Tryz.prog 143 C_cg :=
 fn_calls (L := [(4, c_cg_4)]) hT g_cg Tryz.f143 (by kernel_rfl) (by kernel_rfl) (by kernel_rfl) (seq_ok (plain_ok (by kernel_rfl)) (seq_ok (plain_ok (by kernel_rfl)) (seq_ok (seq_ok (plain_ok (by kernel_rfl)) (block_ok (by kernel_rfl) (loop_ok (by kernel_rfl) k_cg_4))) (plain_ok (by kernel_rfl))))) r_cg
/-! spec.l10Asked -/
abbrev P_ch : List PK := [.ptr Y25, .val Y27, .val Y24]
abbrev R_ch : List VK := [.s (.dat YI)]
abbrev i_ch_10 : Shp := { slots := [(1, .s (.dat Y27)), (2, .s (.dat Y24)), (9, .s (.dat YI))], boxes := [], rows := [] }
abbrev o_ch_10 : List (Ex × Shp) := [(.exit 0, { slots := [], boxes := [], rows := [] }), (.ret, { slots := [(6, .s (.dat YI))], boxes := [], rows := [] })]
def l_ch_10 (rec : i_ch_10.den → Option (denO o_ch_10)) (u10 : i_ch_10.den) : Option (denO o_ch_10) :=
 let v5 := ((u10.1.1.length : Nat) : Int)
 if (ltI u10.1.2.2.1 v5) then
 if 0 ≤ u10.1.2.2.1 then
  ((u10.1.1)[(u10.1.2.2.1).toNat]?).bind fun y6 =>
  let v7 := (IntKind.i64.wrap (y6.1 + (1 : Int)))
  let v8 := (IntKind.i64.wrap (v7 * (8 : Int)))
  let v9 := ((u10.1.2.1.length : Nat) : Int)
  if (ltI v9 v8) then
  some (.inr (.inl (((1 : Int), ()), ((), ()))))
  else
  let v10 := (IntKind.i64.wrap (u10.1.2.2.1 + (1 : Int)))
  rec ((u10.1.1, (u10.1.2.1, (v10, ()))), ((), ()))
 else none
 else
 some (.inl ((), ((), ())))
def L_ch_10 (x : i_ch_10.den) : Option (denO o_ch_10) := iterF l_ch_10 lots x
def F_ch (x : denP P_ch) : Option (denV R_ch × denQ P_ch) :=
 (F_ce (x.1, ())).bind fun r1 =>
 if (r1.1.1 != (0 : Int)) then
 some ((r1.1.1, ()), ())
 else
 (F_cf (x.2.1, (24 : Int), ())).bind fun r2 =>
 if (r2.1.1 != (0 : Int)) then
  some ((r2.1.1, ()), ())
 else
  (F_cg (x.2.2.1, ())).bind fun r3 =>
  if (r3.1.1 != (0 : Int)) then
  some (((1 : Int), ()), ())
  else
  (L_ch_10 ((x.2.1, (x.2.2.1, ((0 : Int), ()))), ((), ()))).bind fun z11 =>
  match z11 with
  | .inl x12 =>
   some (((0 : Int), ()), ())
  | .inr z11_ =>
   match z11_ with
   | .inl x13 =>
   some ((x13.1.1, ()), ())
   | .inr z11__ =>
   none
abbrev C_ch : Con := ⟨P_ch, R_ch, F_ch, false⟩
abbrev G_ch : Env := [(141, C_ce), (142, C_cf), (143, C_cg)]
theorem g_ch : EnvOk Tryz.prog G_ch := (env_cons s_ce (env_cons s_cf (env_cons s_cg env_nil)))
abbrev c_ch_10 : Cut := ⟨i_ch_10, o_ch_10, fun x => iterF l_ch_10 lots x⟩
theorem t_ch_10 (rec x) : run T G_ch [] (nav Tryz.f58 [1, 1, 1, 1, 0, 1, 0, 0]) (mk 39 i_ch_10 x) (loopK i_ch_10 o_ch_10 rec) = l_ch_10 rec x := by kernel_rfl
theorem k_ch_10 : CutOk Tryz.prog 39 (.loop (nav Tryz.f58 [1, 1, 1, 1, 0, 1, 0, 0])) c_ch_10 :=
 loop_cut (L := []) hT g_ch t_ch_10 (plain_ok (by kernel_rfl)) _
theorem r_ch (x) : runFn T G_ch [(10, c_ch_10)] Tryz.f58 P_ch R_ch x = F_ch x := by kernel_rfl
theorem s_ch : CallsOk Tryz.prog 58 C_ch :=
 fn_calls (L := [(10, c_ch_10)]) hT g_ch Tryz.f58 (by kernel_rfl) (by kernel_rfl) (by kernel_rfl) (seq_ok (plain_ok (by kernel_rfl)) (seq_ok (plain_ok (by kernel_rfl)) (seq_ok (plain_ok (by kernel_rfl)) (seq_ok (plain_ok (by kernel_rfl)) (seq_ok (seq_ok (plain_ok (by kernel_rfl)) (block_ok (by kernel_rfl) (loop_ok (by kernel_rfl) k_ch_10))) (plain_ok (by kernel_rfl))))))) r_ch
/-! spec.l4Walk -/
abbrev P_cp : List PK := [.val Y27, .val YI, .val YI]
abbrev R_cp : List VK := [.s (.dat YI)]
def F_cp (x : denP P_cp) : Option (denV R_cp × denQ P_cp) :=
 (F_d (x.2.1, (0 : Int), (63 : Int), ())).bind fun r1 =>
 if (!r1.1.1) then
 some (((-1 : Int), ()), ())
 else
 let v2 := (IntKind.i64.wrap ((x.2.1).tdiv (8 : Int)))
 if 0 ≤ v2 then
  ((x.1)[(v2).toNat]?).bind fun y3 =>
  if (ltI y3.1 (0 : Int)) = false then
  let v4 := (iand .i64 y3.2.1 x.2.2.1)
  if (v4 == (0 : Int)) then
   some (((-1 : Int), ()), ())
  else
   let v5 := (IntKind.i64.wrap (y3.1 * (8 : Int)))
   let v6 := ((x.2.1).tmod (8 : Int))
   let v7 := (IntKind.i64.wrap (v5 + v6))
   some ((v7, ()), ())
  else
  some (((-1 : Int), ()), ())
 else none
abbrev C_cp : Con := ⟨P_cp, R_cp, F_cp, false⟩
abbrev G_cp : Env := [(59, C_d)]
theorem g_cp : EnvOk Tryz.prog G_cp := (env_cons s_d env_nil)
theorem r_cp (x) : runFn T G_cp [] Tryz.f156 P_cp R_cp x = F_cp x := by kernel_rfl
theorem s_cp : CallsOk Tryz.prog 156 C_cp :=
 fn_calls (L := []) hT g_cp Tryz.f156 (by kernel_rfl) (by kernel_rfl) (by kernel_rfl) (plain_ok (by kernel_rfl)) r_cp
/-! spec.l4Entry -/
abbrev P_cq : List PK := [.val YI]
abbrev R_cq : List VK := [.s (.dat Y40)]
def F_cq (x : denP P_cq) : Option (denV R_cq × denQ P_cq) :=
 let v1 := (IntKind.i64.wrap ((x.1).tdiv (8 : Int)))
 let v2 := ((x.1).tmod (8 : Int))
 if (v2 == (0 : Int)) = false then
 if (leI (8 : Int) v1) then
  (F_o ()).bind fun r3 =>
  some ((r3.1.1, ()), ())
 else
  some (((v1, (v2, ())), ()), ())
 else
 (F_o ()).bind fun r4 =>
 some ((r4.1.1, ()), ())
abbrev C_cq : Con := ⟨P_cq, R_cq, F_cq, false⟩
abbrev G_cq : Env := [(251, C_o)]
theorem g_cq : EnvOk Tryz.prog G_cq := (env_cons s_o env_nil)
theorem r_cq (x) : runFn T G_cq [] Tryz.f280 P_cq R_cq x = F_cq x := by kernel_rfl
theorem s_cq : CallsOk Tryz.prog 280 C_cq :=
 fn_calls (L := []) hT g_cq Tryz.f280 (by kernel_rfl) (by kernel_rfl) (by kernel_rfl) (plain_ok (by kernel_rfl)) r_cq
/-! spec.PagesFrom -/
abbrev P_cr : List PK := [.val Y24]
abbrev R_cr : List VK := [.g [.dat YI, .own 41 Y40]]
abbrev i_cr_5 : Shp := { slots := [(0, .s (.dat Y24)), (2, .s (.ptr 2 0)), (3, .s (.ptr 3 0)), (4, .s (.dat YI))], boxes := [(2, [.dat YI, .own 41 Y40]), (3, [.dat YI, .own 41 Y40])], rows := [] }
abbrev o_cr_5 : List (Ex × Shp) := [(.exit 0, { slots := [(2, .s (.ptr 2 0)), (3, .s (.ptr 3 0))], boxes := [(2, [.dat YI, .own 41 Y40]), (3, [.dat YI, .own 41 Y40])], rows := [] }), (.ret, { slots := [(2, .s (.ptr 2 0))], boxes := [(2, [.dat YI, .own 41 Y40])], rows := [] })]
def l_cr_5 (rec : i_cr_5.den → Option (denO o_cr_5)) (u5 : i_cr_5.den) : Option (denO o_cr_5) :=
 let v6 := ((u5.1.1.length : Nat) : Int)
 if (ltI u5.1.2.2.2.1 v6) then
 if 0 ≤ u5.1.2.2.2.1 then
  ((u5.1.1)[(u5.1.2.2.2.1).toNat]?).bind fun y7 =>
  (F_d (y7, (0 : Int), (4294967295 : Int), ())).bind fun r8 =>
  if (!r8.1.1) then
  some (.inr (.inl (((), ()), ((((3 : Int), (([] : List (den Y40)), ())), ()), ()))))
  else
  if 0 ≤ u5.1.2.2.2.1 then
   ((u5.1.1)[(u5.1.2.2.2.1).toNat]?).bind fun y9 =>
   (F_cq (y9, ())).bind fun r10 =>
   if (u5.2.1.2.1.2.1.length + [r10.1.1].length) * 16 ≤ 140737488355328 then
   let v11 := (u5.2.1.2.1.2.1 ++ [r10.1.1])
   let v12 := (IntKind.i64.wrap (u5.1.2.2.2.1 + (1 : Int)))
   rec ((u5.1.1, ((), ((), (v12, ())))), ((u5.2.1.1, ((u5.2.1.2.1.1, (v11, ())), ())), ()))
   else none
  else none
 else none
 else
 some (.inl (((), ((), ())), ((u5.2.1.1, (u5.2.1.2.1, ())), ())))
def L_cr_5 (x : i_cr_5.den) : Option (denO o_cr_5) := iterF l_cr_5 lots x
def F_cr (x : denP P_cr) : Option (denV R_cr × denQ P_cr) :=
 let v1 := ((x.1.length : Nat) : Int)
 if (v1 != (8 : Int)) then
 some ((((1 : Int), (([] : List (den Y40)), ())), ()), ())
 else
 (L_cr_5 ((x.1, ((), ((), ((0 : Int), ())))), ((((0 : Int), (([] : List (den Y40)), ())), (((0 : Int), (([] : List (den Y40)), ())), ())), ()))).bind fun z13 =>
 match z13 with
 | .inl x14 =>
  some ((x14.2.1.2.1, ()), ())
 | .inr z13_ =>
  match z13_ with
  | .inl x15 =>
  some ((x15.2.1.1, ()), ())
  | .inr z13__ =>
  none
abbrev C_cr : Con := ⟨P_cr, R_cr, F_cr, false⟩
abbrev G_cr : Env := [(59, C_d), (280, C_cq)]
theorem g_cr : EnvOk Tryz.prog G_cr := (env_cons s_d (env_cons s_cq env_nil))
abbrev c_cr_5 : Cut := ⟨i_cr_5, o_cr_5, fun x => iterF l_cr_5 lots x⟩
theorem t_cr_5 (rec x) : run T G_cr [] (nav Tryz.f231 [1, 1, 1, 0, 1, 0, 0]) (mk 34 i_cr_5 x) (loopK i_cr_5 o_cr_5 rec) = l_cr_5 rec x := by kernel_rfl
theorem k_cr_5 : CutOk Tryz.prog 34 (.loop (nav Tryz.f231 [1, 1, 1, 0, 1, 0, 0])) c_cr_5 :=
 loop_cut (L := []) hT g_cr t_cr_5 (plain_ok (by kernel_rfl)) _
theorem r_cr (x) : runFn T G_cr [(5, c_cr_5)] Tryz.f231 P_cr R_cr x = F_cr x := by kernel_rfl
theorem s_cr : CallsOk Tryz.prog 231 C_cr :=
 fn_calls (L := [(5, c_cr_5)]) hT g_cr Tryz.f231 (by kernel_rfl) (by kernel_rfl) (by kernel_rfl) (seq_ok (plain_ok (by kernel_rfl)) (seq_ok (plain_ok (by kernel_rfl)) (seq_ok (plain_ok (by kernel_rfl)) (seq_ok (seq_ok (plain_ok (by kernel_rfl)) (block_ok (by kernel_rfl) (loop_ok (by kernel_rfl) k_cr_5))) (plain_ok (by kernel_rfl)))))) r_cr
/-! spec.l10Space -/
abbrev P_cs : List PK := [.ptr Y121]
abbrev R_cs : List VK := [.s (.own 41 Y40), .s (.dat .bool)]
abbrev i_cs_5 : Shp := { slots := [(5, .s (.own 41 Y40)), (6, .s (.dat YI))], boxes := [], rows := [] }
abbrev o_cs_5 : List (Ex × Shp) := [(.exit 0, { slots := [(5, .s (.own 41 Y40))], boxes := [], rows := [] })]
def l_cs_5 (rec : i_cs_5.den → Option (denO o_cs_5)) (u5 : i_cs_5.den) : Option (denO o_cs_5) :=
 if (ltI u5.1.2.1 (8 : Int)) then
 if (u5.1.1.length + [(u5.1.2.1, ((7 : Int), ()))].length) * 16 ≤ 140737488355328 then
  let v2 := (u5.1.1 ++ [(u5.1.2.1, ((7 : Int), ()))])
  let v3 := (IntKind.i64.wrap (u5.1.2.1 + (1 : Int)))
  rec ((v2, (v3, ())), ((), ()))
 else none
 else
 some (.inl ((u5.1.1, ()), ((), ())))
def L_cs_5 (x : i_cs_5.den) : Option (denO o_cs_5) := iterF l_cs_5 lots x
def F_cs (x : denP P_cs) : Option (denV R_cs × denQ P_cs) :=
 ((x.1.2.2.2.1.2.2.1)[((10 : Int)).toNat]?).bind fun y1 =>
 if (y1 == (0 : Int)) then
 (L_cs_5 ((([] : List (den Y40)), ((0 : Int), ())), ((), ()))).bind fun z4 =>
 match z4 with
 | .inl x5 =>
  some ((x5.1.1, true, ()), ())
 | .inr z4_ =>
  none
 else
 let v6 := (IntKind.i64.wrap (y1 - (1 : Int)))
 let v7 := (IntKind.i64.wrap (v6 * (8 : Int)))
 (F_cp (x.1.1, v7, (1 : Int), ())).bind fun r8 =>
 if (y1 == (8 : Int)) = false then
  if (ltI r8.1.1 (0 : Int)) then
  some ((([] : List (den Y40)), false, ()), ())
  else
  let v9 := (IntKind.i64.wrap (r8.1.1 + (8 : Int)))
  if 0 ≤ r8.1.1 ∧ r8.1.1 ≤ v9 ∧ v9 ≤ ((x.1.2.1.length : Nat) : Int) then
   let v10 := ((x.1.2.1.drop (r8.1.1).toNat).take ((v9).toNat - (r8.1.1).toNat))
   (F_cr (v10, ())).bind fun r11 =>
   some ((r11.1.1.2.1, true, ()), ())
  else none
 else
  some ((([] : List (den Y40)), false, ()), ())
abbrev C_cs : Con := ⟨P_cs, R_cs, F_cs, false⟩
abbrev G_cs : Env := [(156, C_cp), (231, C_cr)]
theorem g_cs : EnvOk Tryz.prog G_cs := (env_cons s_cp (env_cons s_cr env_nil))
abbrev c_cs_5 : Cut := ⟨i_cs_5, o_cs_5, fun x => iterF l_cs_5 lots x⟩
theorem t_cs_5 (rec x) : run T G_cs [] (nav Tryz.f155 [1, 1, 0, 1, 0, 1, 0, 1, 0, 0]) (mk 52 i_cs_5 x) (loopK i_cs_5 o_cs_5 rec) = l_cs_5 rec x := by kernel_rfl
theorem k_cs_5 : CutOk Tryz.prog 52 (.loop (nav Tryz.f155 [1, 1, 0, 1, 0, 1, 0, 1, 0, 0])) c_cs_5 :=
 loop_cut (L := []) hT g_cs t_cs_5 (plain_ok (by kernel_rfl)) _
theorem r_cs (x) : runFn T G_cs [(5, c_cs_5)] Tryz.f155 P_cs R_cs x = F_cs x := by kernel_rfl
theorem s_cs : CallsOk Tryz.prog 155 C_cs :=
 fn_calls (L := [(5, c_cs_5)]) hT g_cs Tryz.f155 (by kernel_rfl) (by kernel_rfl) (by kernel_rfl) (seq_ok (plain_ok (by kernel_rfl)) (seq_ok (plain_ok (by kernel_rfl)) (seq_ok (seq_ok (plain_ok (by kernel_rfl)) (cond_ok (seq_ok (plain_ok (by kernel_rfl)) (seq_ok (seq_ok (plain_ok (by kernel_rfl)) (block_ok (by kernel_rfl) (loop_ok (by kernel_rfl) k_cs_5))) (plain_ok (by kernel_rfl)))) (plain_ok (by kernel_rfl)))) (plain_ok (by kernel_rfl))))) r_cs
/-! spec.l4Code -/
abbrev P_ct : List PK := [.val YI]
abbrev R_ct : List VK := [.s (.dat YI)]
def F_ct (x : denP P_ct) : Option (denV R_ct × denQ P_ct) :=
 if (x.1 == (1 : Int)) then
 some (((7 : Int), ()), ())
 else
 if (x.1 == (2 : Int)) then
  some (((8 : Int), ()), ())
 else
  some (((9 : Int), ()), ())
abbrev C_ct : Con := ⟨P_ct, R_ct, F_ct, false⟩
abbrev G_ct : Env := []
theorem g_ct : EnvOk Tryz.prog G_ct := env_nil
theorem r_ct (x) : runFn T G_ct [] Tryz.f157 P_ct R_ct x = F_ct x := by kernel_rfl
theorem s_ct : CallsOk Tryz.prog 157 C_ct :=
 fn_calls (L := []) hT g_ct Tryz.f157 (by kernel_rfl) (by kernel_rfl) (by kernel_rfl) (plain_ok (by kernel_rfl)) r_ct
/-! spec.l10Place -/
abbrev P_cu : List PK := [.ptr Y121, .val YI, .val YI]
abbrev R_cu : List VK := [.s (.dat YI), .s (.dat YI)]
def F_cu (x : denP P_cu) : Option (denV R_cu × denQ P_cu) :=
 (F_cs (x.1, ())).bind fun r1 =>
 if (!r1.1.2.1) then
 some (((0 : Int), (7 : Int), ()), ())
 else
 (F_cp (r1.1.1, x.2.1, x.2.2.1, ())).bind fun r2 =>
 if (ltI r2.1.1 (0 : Int)) then
  (F_ct (x.2.2.1, ())).bind fun r3 =>
  some (((0 : Int), r3.1.1, ()), ())
 else
  let v4 := (IntKind.i64.wrap ((r2.1.1).tdiv (8 : Int)))
  if (v4 == (7 : Int)) then
  if (x.2.2.1 == (4 : Int)) then
   some (((0 : Int), (9 : Int), ()), ())
  else
   let v5 := ((r2.1.1).tmod (8 : Int))
   let v6 := (IntKind.i64.wrap ((1000 : Int) + v5))
   some ((v6, (0 : Int), ()), ())
  else
  (F_cp (x.1.1, r2.1.1, x.2.2.1, ())).bind fun r7 =>
  if (ltI r7.1.1 (0 : Int)) then
   (F_ct (x.2.2.1, ())).bind fun r8 =>
   some (((0 : Int), r8.1.1, ()), ())
  else
   some ((r7.1.1, (0 : Int), ()), ())
abbrev C_cu : Con := ⟨P_cu, R_cu, F_cu, false⟩
abbrev G_cu : Env := [(155, C_cs), (156, C_cp), (157, C_ct)]
theorem g_cu : EnvOk Tryz.prog G_cu := (env_cons s_cs (env_cons s_cp (env_cons s_ct env_nil)))
theorem r_cu (x) : runFn T G_cu [] Tryz.f65 P_cu R_cu x = F_cu x := by kernel_rfl
theorem s_cu : CallsOk Tryz.prog 65 C_cu :=
 fn_calls (L := []) hT g_cu Tryz.f65 (by kernel_rfl) (by kernel_rfl) (by kernel_rfl) (plain_ok (by kernel_rfl)) r_cu
/-! spec.l2Decode -/
abbrev P_cv : List PK := [.val YI]
abbrev R_cv : List VK := [.s (.dat Y42), .s (.dat .bool)]
def F_cv (x : denP P_cv) : Option (denV R_cv × denQ P_cv) :=
 (F_d (x.1, (0 : Int), (4294967295 : Int), ())).bind fun r1 =>
 if (!r1.1.1) then
 some ((((0 : Int), ((0 : Int), ((0 : Int), ((0 : Int), ())))), false, ()), ())
 else
 let v2 := ((x.1).fdiv (2 ^ 24))
 let v3 := ((x.1).fdiv (2 ^ 20))
 let v4 := (iand .i64 v3 (15 : Int))
 let v5 := ((x.1).fdiv (2 ^ 16))
 let v6 := (iand .i64 v5 (15 : Int))
 let v7 := (iand .i64 x.1 (65535 : Int))
 (F_v ((v2, (v4, (v6, (v7, ())))), ())).bind fun r8 =>
 some (((v2, (v4, (v6, (v7, ())))), (r8.1.1 == (0 : Int)), ()), ())
abbrev C_cv : Con := ⟨P_cv, R_cv, F_cv, false⟩
abbrev G_cv : Env := [(59, C_d), (220, C_v)]
theorem g_cv : EnvOk Tryz.prog G_cv := (env_cons s_d (env_cons s_v env_nil))
theorem r_cv (x) : runFn T G_cv [] Tryz.f149 P_cv R_cv x = F_cv x := by kernel_rfl
theorem s_cv : CallsOk Tryz.prog 149 C_cv :=
 fn_calls (L := []) hT g_cv Tryz.f149 (by kernel_rfl) (by kernel_rfl) (by kernel_rfl) (plain_ok (by kernel_rfl)) r_cv
/-! spec.DecodeIns -/
abbrev P_du : List PK := [.val YI]
abbrev R_du : List VK := [.s (.dat Y44)]
def F_du (x : denP P_du) : Option (denV R_du × denQ P_du) :=
 (F_cv (x.1, ())).bind fun r1 =>
 if (!r1.1.2.1) then
 some ((((5 : Int), (((0 : Int), ((0 : Int), ((0 : Int), ((0 : Int), ())))), ())), ()), ())
 else
 some ((((0 : Int), (r1.1.1, ())), ()), ())
abbrev C_du : Con := ⟨P_du, R_du, F_du, false⟩
abbrev G_du : Env := [(149, C_cv)]
theorem g_du : EnvOk Tryz.prog G_du := (env_cons s_cv env_nil)
theorem r_du (x) : runFn T G_du [] Tryz.f66 P_du R_du x = F_du x := by kernel_rfl
theorem s_du : CallsOk Tryz.prog 66 C_du :=
 fn_calls (L := []) hT g_du Tryz.f66 (by kernel_rfl) (by kernel_rfl) (by kernel_rfl) (plain_ok (by kernel_rfl)) r_du
/-! spec.NextIns -/
abbrev P_dv : List PK := [.val Y25, .val Y27, .val Y24]
abbrev R_dv : List VK := [.s (.dat Y44)]
def F_dv (x : denP P_dv) : Option (denV R_dv × denQ P_dv) :=
 (F_ch (x.1, x.2.1, x.2.2.1, ())).bind fun r1 =>
 if (r1.1.1 != (0 : Int)) then
 some (((r1.1.1, (((0 : Int), ((0 : Int), ((0 : Int), ((0 : Int), ())))), ())), ()), ())
 else
 (F_cu ((x.2.1, (x.2.2.1, ((0 : Int), (x.1, ((0 : Int), ()))))), x.1.2.1, (4 : Int), ())).bind fun r2 =>
 if (r2.1.2.1 != (0 : Int)) then
  some (((r2.1.2.1, (((0 : Int), ((0 : Int), ((0 : Int), ((0 : Int), ())))), ())), ()), ())
 else
  if 0 ≤ r2.1.1 then
  ((x.2.2.1)[(r2.1.1).toNat]?).bind fun y3 =>
  (F_du (y3, ())).bind fun r4 =>
  some ((r4.1.1, ()), ())
  else none
abbrev C_dv : Con := ⟨P_dv, R_dv, F_dv, false⟩
abbrev G_dv : Env := [(58, C_ch), (65, C_cu), (66, C_du)]
theorem g_dv : EnvOk Tryz.prog G_dv := (env_cons s_ch (env_cons s_cu (env_cons s_du env_nil)))
theorem r_dv (x) : runFn T G_dv [] Tryz.f24 P_dv R_dv x = F_dv x := by kernel_rfl
theorem s_dv : CallsOk Tryz.prog 24 C_dv :=
 fn_calls (L := []) hT g_dv Tryz.f24 (by kernel_rfl) (by kernel_rfl) (by kernel_rfl) (plain_ok (by kernel_rfl)) r_dv
/-! spec.l3Copy -/
abbrev P_ci : List PK := [.val Y24]
abbrev R_ci : List VK := [.s (.own 2 YI)]
def F_ci (x : denP P_ci) : Option (denV R_ci × denQ P_ci) :=
 if (([] : List (den YI)).length + x.1.length) * 8 ≤ 140737488355328 then
 let v1 := (([] : List (den YI)) ++ x.1)
 some ((v1, ()), ())
 else none
abbrev C_ci : Con := ⟨P_ci, R_ci, F_ci, false⟩
abbrev G_ci : Env := []
theorem g_ci : EnvOk Tryz.prog G_ci := env_nil
theorem r_ci (x) : runFn T G_ci [] Tryz.f144 P_ci R_ci x = F_ci x := by kernel_rfl
theorem s_ci : CallsOk Tryz.prog 144 C_ci :=
 fn_calls (L := []) hT g_ci Tryz.f144 (by kernel_rfl) (by kernel_rfl) (by kernel_rfl) (plain_ok (by kernel_rfl)) r_ci
/-! spec.l8Copy -/
abbrev P_cj : List PK := [.val Y25]
abbrev R_cj : List VK := [.g [.own 2 YI, .dat YI, .own 2 YI, .dat .bool, .dat .bool, .dat .bool, .dat YI, .own 2 YI, .own 2 YI]]
def F_cj (x : denP P_cj) : Option (denV R_cj × denQ P_cj) :=
 if (([] : List (den YI)).length + x.1.1.length) * 8 ≤ 140737488355328 then
 let v1 := (([] : List (den YI)) ++ x.1.1)
 if (([] : List (den YI)).length + x.1.2.2.1.length) * 8 ≤ 140737488355328 then
  let v2 := (([] : List (den YI)) ++ x.1.2.2.1)
  if (([] : List (den YI)).length + x.1.2.2.2.2.2.2.2.1.length) * 8 ≤ 140737488355328 then
  let v3 := (([] : List (den YI)) ++ x.1.2.2.2.2.2.2.2.1)
  if (([] : List (den YI)).length + x.1.2.2.2.2.2.2.2.2.1.length) * 8 ≤ 140737488355328 then
   let v4 := (([] : List (den YI)) ++ x.1.2.2.2.2.2.2.2.2.1)
   some (((v1, (x.1.2.1, (v2, (x.1.2.2.2.1, (x.1.2.2.2.2.1, (x.1.2.2.2.2.2.1, (x.1.2.2.2.2.2.2.1, (v3, (v4, ()))))))))), ()), ())
  else none
  else none
 else none
 else none
abbrev C_cj : Con := ⟨P_cj, R_cj, F_cj, false⟩
abbrev G_cj : Env := []
theorem g_cj : EnvOk Tryz.prog G_cj := env_nil
theorem r_cj (x) : runFn T G_cj [] Tryz.f145 P_cj R_cj x = F_cj x := by kernel_rfl
theorem s_cj : CallsOk Tryz.prog 145 C_cj :=
 fn_calls (L := []) hT g_cj Tryz.f145 (by kernel_rfl) (by kernel_rfl) (by kernel_rfl) (plain_ok (by kernel_rfl)) r_cj
/-! spec.l10New -/
abbrev P_ck : List PK := [.val Y25, .val Y27, .val Y24]
abbrev R_ck : List VK := [.b [.dat Y27, .own 2 YI, .dat YI, .own 2 YI, .dat YI, .own 2 YI, .dat .bool, .dat .bool, .dat .bool, .dat YI, .dat Y24, .own 2 YI, .dat YI]]
def F_ck (x : denP P_ck) : Option (denV R_ck × denQ P_ck) :=
 (F_ci (x.2.2.1, ())).bind fun r1 =>
 (F_cj (x.1, ())).bind fun r2 =>
 some (((x.2.1, (r1.1.1, ((-1 : Int), (r2.1.1.1, (r2.1.1.2.1, (r2.1.1.2.2.1, (r2.1.1.2.2.2.1, (r2.1.1.2.2.2.2.1, (r2.1.1.2.2.2.2.2.1, (r2.1.1.2.2.2.2.2.2.1, (r2.1.1.2.2.2.2.2.2.2.1, (r2.1.1.2.2.2.2.2.2.2.2.1, ((-1 : Int), ()))))))))))))), ()), ())
abbrev C_ck : Con := ⟨P_ck, R_ck, F_ck, false⟩
abbrev G_ck : Env := [(144, C_ci), (145, C_cj)]
theorem g_ck : EnvOk Tryz.prog G_ck := (env_cons s_ci (env_cons s_cj env_nil))
theorem r_ck (x) : runFnb T G_ck [] Tryz.f60 P_ck [.dat Y27, .own 2 YI, .dat YI, .own 2 YI, .dat YI, .own 2 YI, .dat .bool, .dat .bool, .dat .bool, .dat YI, .dat Y24, .own 2 YI, .dat YI] x = F_ck x := by kernel_rfl
theorem s_ck : CallsOk Tryz.prog 60 C_ck :=
 fnb_calls (L := []) hT g_ck Tryz.f60 (by kernel_rfl) (by kernel_rfl) (by kernel_rfl) (plain_ok (by kernel_rfl)) r_ck
/-! spec.l8Pending -/
abbrev P_cl : List PK := [.ptr Y25]
abbrev R_cl : List VK := [.s (.dat YI)]
def F_cl (x : denP P_cl) : Option (denV R_cl × denQ P_cl) :=
 ((x.1.2.2.1)[((9 : Int)).toNat]?).bind fun y1 =>
 if (y1 != (0 : Int)) = true then
 ((x.1.2.2.1)[((9 : Int)).toNat]?).bind fun y2 =>
 if (leI y2 x.1.2.2.2.2.2.2.1) then
  if x.1.2.2.2.2.2.1 then
  let v3 := ((x.1.2.2.2.2.2.2.2.1.length : Nat) : Int)
  if (ltI (0 : Int) v3) then
   some (((7 : Int), ()), ())
  else
   some (((3 : Int), ()), ())
  else
  let v4 := ((x.1.2.2.2.2.2.2.2.1.length : Nat) : Int)
  if (ltI (0 : Int) v4) then
   some (((5 : Int), ()), ())
  else
   some (((1 : Int), ()), ())
 else
  if x.1.2.2.2.2.2.1 then
  let v5 := ((x.1.2.2.2.2.2.2.2.1.length : Nat) : Int)
  if (ltI (0 : Int) v5) then
   some (((6 : Int), ()), ())
  else
   some (((2 : Int), ()), ())
  else
  let v6 := ((x.1.2.2.2.2.2.2.2.1.length : Nat) : Int)
  if (ltI (0 : Int) v6) then
   some (((4 : Int), ()), ())
  else
   some (((0 : Int), ()), ())
 else
 if x.1.2.2.2.2.2.1 then
  let v7 := ((x.1.2.2.2.2.2.2.2.1.length : Nat) : Int)
  if (ltI (0 : Int) v7) then
  some (((6 : Int), ()), ())
  else
  some (((2 : Int), ()), ())
 else
  let v8 := ((x.1.2.2.2.2.2.2.2.1.length : Nat) : Int)
  if (ltI (0 : Int) v8) then
  some (((4 : Int), ()), ())
  else
  some (((0 : Int), ()), ())
abbrev C_cl : Con := ⟨P_cl, R_cl, F_cl, false⟩
abbrev G_cl : Env := []
theorem g_cl : EnvOk Tryz.prog G_cl := env_nil
theorem r_cl (x) : runFn T G_cl [] Tryz.f148 P_cl R_cl x = F_cl x := by kernel_rfl
theorem s_cl : CallsOk Tryz.prog 148 C_cl :=
 fn_calls (L := []) hT g_cl Tryz.f148 (by kernel_rfl) (by kernel_rfl) (by kernel_rfl) (plain_ok (by kernel_rfl)) r_cl
/-! spec.l8Due -/
abbrev P_cm : List PK := [.ptr Y25]
abbrev R_cm : List VK := [.s (.dat YI)]
abbrev i_cm_5 : Shp := { slots := [(3, .s (.dat YI)), (4, .s (.dat YI))], boxes := [], rows := [] }
abbrev o_cm_5 : List (Ex × Shp) := [(.exit 0, { slots := [], boxes := [], rows := [] }), (.ret, { slots := [(2, .s (.dat YI))], boxes := [], rows := [] })]
def l_cm_5 (rec : i_cm_5.den → Option (denO o_cm_5)) (u5 : i_cm_5.den) : Option (denO o_cm_5) :=
 if (ltI u5.1.2.1 (3 : Int)) then
 let v6 := (IntKind.u64.wrap u5.1.2.1)
 if v6 < 0 then none else
 let v7 := ((u5.1.1).fdiv (2 ^ (min (v6).toNat 64)))
 let v8 := (iand .i64 v7 (1 : Int))
 if (v8 == (1 : Int)) then
  some (.inr (.inl ((u5.1.2.1, ()), ((), ()))))
 else
  let v9 := (IntKind.i64.wrap (u5.1.2.1 + (1 : Int)))
  rec ((u5.1.1, (v9, ())), ((), ()))
 else
 some (.inl ((), ((), ())))
def L_cm_5 (x : i_cm_5.den) : Option (denO o_cm_5) := iterF l_cm_5 lots x
def F_cm (x : denP P_cm) : Option (denV R_cm × denQ P_cm) :=
 (F_cl (x.1, ())).bind fun r1 =>
 ((x.1.2.2.1)[((7 : Int)).toNat]?).bind fun y2 =>
 let v3 := (iand .i64 r1.1.1 y2)
 ((x.1.2.2.1)[((0 : Int)).toNat]?).bind fun y4 =>
 let v5 := ((y4).tmod (2 : Int))
 if (v5 == (0 : Int)) then
 some (((-1 : Int), ()), ())
 else
 (L_cm_5 ((v3, ((0 : Int), ())), ((), ()))).bind fun z10 =>
 match z10 with
 | .inl x11 =>
  some (((-1 : Int), ()), ())
 | .inr z10_ =>
  match z10_ with
  | .inl x12 =>
  some ((x12.1.1, ()), ())
  | .inr z10__ =>
  none
abbrev C_cm : Con := ⟨P_cm, R_cm, F_cm, false⟩
abbrev G_cm : Env := [(148, C_cl)]
theorem g_cm : EnvOk Tryz.prog G_cm := (env_cons s_cl env_nil)
abbrev c_cm_5 : Cut := ⟨i_cm_5, o_cm_5, fun x => iterF l_cm_5 lots x⟩
theorem t_cm_5 (rec x) : run T G_cm [] (nav Tryz.f146 [1, 1, 1, 0, 1, 0, 0]) (mk 33 i_cm_5 x) (loopK i_cm_5 o_cm_5 rec) = l_cm_5 rec x := by kernel_rfl
theorem k_cm_5 : CutOk Tryz.prog 33 (.loop (nav Tryz.f146 [1, 1, 1, 0, 1, 0, 0])) c_cm_5 :=
 loop_cut (L := []) hT g_cm t_cm_5 (plain_ok (by kernel_rfl)) _
theorem r_cm (x) : runFn T G_cm [(5, c_cm_5)] Tryz.f146 P_cm R_cm x = F_cm x := by kernel_rfl
theorem s_cm : CallsOk Tryz.prog 146 C_cm :=
 fn_calls (L := [(5, c_cm_5)]) hT g_cm Tryz.f146 (by kernel_rfl) (by kernel_rfl) (by kernel_rfl) (seq_ok (plain_ok (by kernel_rfl)) (seq_ok (plain_ok (by kernel_rfl)) (seq_ok (plain_ok (by kernel_rfl)) (seq_ok (seq_ok (plain_ok (by kernel_rfl)) (block_ok (by kernel_rfl) (loop_ok (by kernel_rfl) k_cm_5))) (plain_ok (by kernel_rfl)))))) r_cm
/-! spec.l8Trap -/
abbrev P_cn : List PK := [.box [.own 2 YI, .dat YI, .own 2 YI, .dat .bool, .dat .bool, .dat .bool, .dat YI, .dat Y24, .own 2 YI] [.own 2 YI, .dat YI, .own 2 YI, .dat .bool, .dat .bool, .dat .bool, .dat YI, .dat Y24, .own 2 YI], .val YI, .val YI]
abbrev R_cn : List VK := []
def F_cn (x : denP P_cn) : Option (denV R_cn × denQ P_cn) :=
 if 0 ≤ (2 : Int) ∧ (2 : Int) < ((x.1.2.2.1.length : Nat) : Int) then
 ((x.1.2.2.1)[((2 : Int)).toNat]?).bind fun y1 =>
 let v2 := (x.1.2.2.1.set ((2 : Int)).toNat x.1.2.1)
 if 0 ≤ (3 : Int) ∧ (3 : Int) < ((v2.length : Nat) : Int) then
  ((v2)[((3 : Int)).toNat]?).bind fun y3 =>
  let v4 := (v2.set ((3 : Int)).toNat x.2.1)
  if 0 ≤ (4 : Int) ∧ (4 : Int) < ((v4.length : Nat) : Int) then
  ((v4)[((4 : Int)).toNat]?).bind fun y5 =>
  let v6 := (v4.set ((4 : Int)).toNat x.2.2.1)
  if 0 ≤ (0 : Int) ∧ (0 : Int) < ((v6.length : Nat) : Int) then
   ((v6)[((0 : Int)).toNat]?).bind fun y7 =>
   let v8 := ((y7).tmod (2 : Int))
   let v9 := (IntKind.i64.wrap (v8 * (2 : Int)))
   if 0 ≤ (0 : Int) ∧ (0 : Int) < ((v6.length : Nat) : Int) then
   ((v6)[((0 : Int)).toNat]?).bind fun y10 =>
   let v11 := (v6.set ((0 : Int)).toNat v9)
   if 0 ≤ (1 : Int) ∧ (1 : Int) < ((v11.length : Nat) : Int) then
    ((v11)[((1 : Int)).toNat]?).bind fun y12 =>
    some ((), ((x.1.1, (y12, (v11, (x.1.2.2.2.1, (false, (x.1.2.2.2.2.2.1, (x.1.2.2.2.2.2.2.1, (x.1.2.2.2.2.2.2.2.1, (x.1.2.2.2.2.2.2.2.2.1, ()))))))))), ()))
   else none
   else none
  else none
  else none
 else none
 else none
abbrev C_cn : Con := ⟨P_cn, R_cn, F_cn, false⟩
abbrev G_cn : Env := []
theorem g_cn : EnvOk Tryz.prog G_cn := env_nil
theorem r_cn (x) : runFn T G_cn [] Tryz.f219 P_cn R_cn x = F_cn x := by kernel_rfl
theorem s_cn : CallsOk Tryz.prog 219 C_cn :=
 fn_calls (L := []) hT g_cn Tryz.f219 (by kernel_rfl) (by kernel_rfl) (by kernel_rfl) (plain_ok (by kernel_rfl)) r_cn
/-! spec.l10Fall -/
abbrev P_co : List PK := [.box [.dat Y27, .own 2 YI, .dat YI, .own 2 YI, .dat YI, .own 2 YI, .dat .bool, .dat .bool, .dat .bool, .dat YI, .dat Y24, .own 2 YI, .dat YI] [.dat Y27, .own 2 YI, .dat YI, .own 2 YI, .dat YI, .own 2 YI, .dat .bool, .dat .bool, .dat .bool, .dat YI, .dat Y24, .own 2 YI, .dat YI], .val YI, .val YI]
abbrev R_co : List VK := []
def F_co (x : denP P_co) : Option (denV R_co × denQ P_co) :=
 (F_cn ((x.1.2.2.2.1, (x.1.2.2.2.2.1, (x.1.2.2.2.2.2.1, (x.1.2.2.2.2.2.2.1, (x.1.2.2.2.2.2.2.2.1, (x.1.2.2.2.2.2.2.2.2.1, (x.1.2.2.2.2.2.2.2.2.2.1, (x.1.2.2.2.2.2.2.2.2.2.2.1, (x.1.2.2.2.2.2.2.2.2.2.2.2.1, ()))))))))), x.2.1, x.2.2.1, ())).bind fun r1 =>
 some ((), ((x.1.1, (x.1.2.1, (x.1.2.2.1, (r1.2.1.1, (r1.2.1.2.1, (r1.2.1.2.2.1, (r1.2.1.2.2.2.1, (r1.2.1.2.2.2.2.1, (r1.2.1.2.2.2.2.2.1, (r1.2.1.2.2.2.2.2.2.1, (r1.2.1.2.2.2.2.2.2.2.1, (r1.2.1.2.2.2.2.2.2.2.2.1, (x.2.1, ()))))))))))))), ()))
abbrev C_co : Con := ⟨P_co, R_co, F_co, false⟩
abbrev G_co : Env := [(219, C_cn)]
theorem g_co : EnvOk Tryz.prog G_co := (env_cons s_cn env_nil)
theorem r_co (x) : runFn T G_co [] Tryz.f147 P_co R_co x = F_co x := by kernel_rfl
theorem s_co : CallsOk Tryz.prog 147 C_co :=
 fn_calls (L := []) hT g_co Tryz.f147 (by kernel_rfl) (by kernel_rfl) (by kernel_rfl) (plain_ok (by kernel_rfl)) r_co
/-! spec.AddWords -/
abbrev P_cw : List PK := [.val YI, .val YI]
abbrev R_cw : List VK := [.s (.dat YI)]
def F_cw (x : denP P_cw) : Option (denV R_cw × denQ P_cw) :=
 let v1 := (IntKind.u32.wrap x.1)
 let v2 := (IntKind.u32.wrap x.2.1)
 let v3 := (IntKind.u32.wrap (v1 + v2))
 let v4 := (IntKind.i64.wrap v3)
 some ((v4, ()), ())
abbrev C_cw : Con := ⟨P_cw, R_cw, F_cw, false⟩
abbrev G_cw : Env := []
theorem g_cw : EnvOk Tryz.prog G_cw := env_nil
theorem r_cw (x) : runFn T G_cw [] Tryz.f221 P_cw R_cw x = F_cw x := by kernel_rfl
theorem s_cw : CallsOk Tryz.prog 221 C_cw :=
 fn_calls (L := []) hT g_cw Tryz.f221 (by kernel_rfl) (by kernel_rfl) (by kernel_rfl) (plain_ok (by kernel_rfl)) r_cw
/-! spec.OffsetOf -/
abbrev P_cx : List PK := [.val YI]
abbrev R_cx : List VK := [.s (.dat YI)]
def F_cx (x : denP P_cx) : Option (denV R_cx × denQ P_cx) :=
 let v1 := (IntKind.u16.wrap x.1)
 let v2 := (IntKind.i16.wrap v1)
 let v3 := (IntKind.i64.wrap v2)
 some ((v3, ()), ())
abbrev C_cx : Con := ⟨P_cx, R_cx, F_cx, false⟩
abbrev G_cx : Env := []
theorem g_cx : EnvOk Tryz.prog G_cx := env_nil
theorem r_cx (x) : runFn T G_cx [] Tryz.f222 P_cx R_cx x = F_cx x := by kernel_rfl
theorem s_cx : CallsOk Tryz.prog 222 C_cx :=
 fn_calls (L := []) hT g_cx Tryz.f222 (by kernel_rfl) (by kernel_rfl) (by kernel_rfl) (plain_ok (by kernel_rfl)) r_cx
/-! spec.l10Put -/
abbrev P_cy : List PK := [.box [.dat Y27, .own 2 YI, .dat YI, .own 2 YI, .dat YI, .own 2 YI, .dat .bool, .dat .bool, .dat .bool, .dat YI, .dat Y24, .own 2 YI, .dat YI] [.dat Y27, .own 2 YI, .dat YI, .own 2 YI, .dat YI, .own 2 YI, .dat .bool, .dat .bool, .dat .bool, .dat YI, .dat Y24, .own 2 YI, .dat YI], .val YI, .val YI]
abbrev R_cy : List VK := []
def F_cy (x : denP P_cy) : Option (denV R_cy × denQ P_cy) :=
 if (x.2.1 != (0 : Int)) then
 if 0 ≤ x.2.1 ∧ x.2.1 < ((x.1.2.2.2.1.length : Nat) : Int) then
  ((x.1.2.2.2.1)[(x.2.1).toNat]?).bind fun y1 =>
  let v2 := (x.1.2.2.2.1.set (x.2.1).toNat x.2.2.1)
  some ((), ((x.1.1, (x.1.2.1, (x.1.2.2.1, (v2, (x.1.2.2.2.2.1, (x.1.2.2.2.2.2.1, (x.1.2.2.2.2.2.2.1, (x.1.2.2.2.2.2.2.2.1, (x.1.2.2.2.2.2.2.2.2.1, (x.1.2.2.2.2.2.2.2.2.2.1, (x.1.2.2.2.2.2.2.2.2.2.2.1, (x.1.2.2.2.2.2.2.2.2.2.2.2.1, (x.1.2.2.2.2.2.2.2.2.2.2.2.2.1, ()))))))))))))), ()))
 else none
 else
 some ((), (x.1, ()))
abbrev C_cy : Con := ⟨P_cy, R_cy, F_cy, false⟩
abbrev G_cy : Env := []
theorem g_cy : EnvOk Tryz.prog G_cy := env_nil
theorem r_cy (x) : runFn T G_cy [] Tryz.f223 P_cy R_cy x = F_cy x := by kernel_rfl
theorem s_cy : CallsOk Tryz.prog 223 C_cy :=
 fn_calls (L := []) hT g_cy Tryz.f223 (by kernel_rfl) (by kernel_rfl) (by kernel_rfl) (plain_ok (by kernel_rfl)) r_cy
/-! spec.l9Read -/
abbrev P_cz : List PK := [.box [.own 2 YI, .dat YI, .own 2 YI, .dat .bool, .dat .bool, .dat .bool, .dat YI, .dat Y24, .own 2 YI] [.own 2 YI, .dat YI, .own 2 YI, .dat .bool, .dat .bool, .dat .bool, .dat YI, .dat Y24, .own 2 YI], .val YI]
abbrev R_cz : List VK := [.s (.dat YI)]
def F_cz (x : denP P_cz) : Option (denV R_cz × denQ P_cz) :=
 if (x.2.1 == (1 : Int)) then
 let v1 := ((x.1.2.2.2.2.2.2.2.1.length : Nat) : Int)
 if (v1 == (0 : Int)) then
  some (((0 : Int), ()), (x.1, ()))
 else
  ((x.1.2.2.2.2.2.2.2.1)[((0 : Int)).toNat]?).bind fun y2 =>
  if 0 ≤ (1 : Int) ∧ (1 : Int) ≤ ((x.1.2.2.2.2.2.2.2.1.length : Nat) : Int) ∧ ((x.1.2.2.2.2.2.2.2.1.length : Nat) : Int) ≤ ((x.1.2.2.2.2.2.2.2.1.length : Nat) : Int) then
  let v3 := ((x.1.2.2.2.2.2.2.2.1.drop ((1 : Int)).toNat).take ((((x.1.2.2.2.2.2.2.2.1.length : Nat) : Int)).toNat - ((1 : Int)).toNat))
  some ((y2, ()), ((x.1.1, (x.1.2.1, (x.1.2.2.1, (x.1.2.2.2.1, (x.1.2.2.2.2.1, (x.1.2.2.2.2.2.1, (x.1.2.2.2.2.2.2.1, (v3, (x.1.2.2.2.2.2.2.2.2.1, ()))))))))), ()))
  else none
 else
 if (x.2.1 == (2 : Int)) then
  some ((x.1.2.2.2.2.2.2.1, ()), (x.1, ()))
 else
  if (x.2.1 == (3 : Int)) then
  if 0 ≤ (9 : Int) ∧ (9 : Int) < ((x.1.2.2.1.length : Nat) : Int) then
   ((x.1.2.2.1)[((9 : Int)).toNat]?).bind fun y4 =>
   some ((y4, ()), (x.1, ()))
  else none
  else
  if (x.2.1 == (4 : Int)) then
   (F_cl (x.1, ())).bind fun r5 =>
   some ((r5.1.1, ()), (x.1, ()))
  else
   if (x.2.1 == (6 : Int)) then
   let v6 := ((x.1.2.2.2.2.2.2.2.1.length : Nat) : Int)
   some ((v6, ()), (x.1, ()))
   else
   some (((0 : Int), ()), (x.1, ()))
abbrev C_cz : Con := ⟨P_cz, R_cz, F_cz, false⟩
abbrev G_cz : Env := [(148, C_cl)]
theorem g_cz : EnvOk Tryz.prog G_cz := (env_cons s_cl env_nil)
theorem r_cz (x) : runFn T G_cz [] Tryz.f271 P_cz R_cz x = F_cz x := by kernel_rfl
theorem s_cz : CallsOk Tryz.prog 271 C_cz :=
 fn_calls (L := []) hT g_cz Tryz.f271 (by kernel_rfl) (by kernel_rfl) (by kernel_rfl) (plain_ok (by kernel_rfl)) r_cz
/-! spec.l9Write -/
abbrev P_da : List PK := [.box [.own 2 YI, .dat YI, .own 2 YI, .dat .bool, .dat .bool, .dat .bool, .dat YI, .dat Y24, .own 2 YI] [.own 2 YI, .dat YI, .own 2 YI, .dat .bool, .dat .bool, .dat .bool, .dat YI, .dat Y24, .own 2 YI], .val YI, .val YI]
abbrev R_da : List VK := [.s (.dat YI)]
def F_da (x : denP P_da) : Option (denV R_da × denQ P_da) :=
 (F_k (x.2.2.1, ())).bind fun r1 =>
 if (x.2.1 == (0 : Int)) then
 let v2 := ((x.1.2.2.2.2.2.2.2.2.1.length : Nat) : Int)
 if (ltI v2 (40 : Int)) then
  if (x.1.2.2.2.2.2.2.2.2.1.length + [r1.1.1].length) * 8 ≤ 140737488355328 then
  let v3 := (x.1.2.2.2.2.2.2.2.2.1 ++ [r1.1.1])
  some (((-1 : Int), ()), ((x.1.1, (x.1.2.1, (x.1.2.2.1, (x.1.2.2.2.1, (x.1.2.2.2.2.1, (x.1.2.2.2.2.2.1, (x.1.2.2.2.2.2.2.1, (x.1.2.2.2.2.2.2.2.1, (v3, ()))))))))), ()))
  else none
 else
  some (((-1 : Int), ()), (x.1, ()))
 else
 if (x.2.1 == (3 : Int)) then
  if 0 ≤ (9 : Int) ∧ (9 : Int) < ((x.1.2.2.1.length : Nat) : Int) then
  ((x.1.2.2.1)[((9 : Int)).toNat]?).bind fun y4 =>
  let v5 := (x.1.2.2.1.set ((9 : Int)).toNat r1.1.1)
  some (((-1 : Int), ()), ((x.1.1, (x.1.2.1, (v5, (x.1.2.2.2.1, (x.1.2.2.2.2.1, (x.1.2.2.2.2.2.1, (x.1.2.2.2.2.2.2.1, (x.1.2.2.2.2.2.2.2.1, (x.1.2.2.2.2.2.2.2.2.1, ()))))))))), ()))
  else none
 else
  if (x.2.1 == (4 : Int)) then
  (F_l (x.1, (6 : Int), r1.1.1, ())).bind fun r6 =>
  some (((-1 : Int), ()), (r6.2.1, ()))
  else
  if (x.2.1 == (5 : Int)) then
   some ((r1.1.1, ()), (x.1, ()))
  else
   some (((-1 : Int), ()), (x.1, ()))
abbrev C_da : Con := ⟨P_da, R_da, F_da, false⟩
abbrev G_da : Env := [(227, C_l), (274, C_k)]
theorem g_da : EnvOk Tryz.prog G_da := (env_cons s_l (env_cons s_k env_nil))
theorem r_da (x) : runFn T G_da [] Tryz.f272 P_da R_da x = F_da x := by kernel_rfl
theorem s_da : CallsOk Tryz.prog 272 C_da :=
 fn_calls (L := []) hT g_da Tryz.f272 (by kernel_rfl) (by kernel_rfl) (by kernel_rfl) (plain_ok (by kernel_rfl)) r_da
/-! spec.l10Memory -/
abbrev P_db : List PK := [.box [.dat Y27, .own 2 YI, .dat YI, .own 2 YI, .dat YI, .own 2 YI, .dat .bool, .dat .bool, .dat .bool, .dat YI, .dat Y24, .own 2 YI, .dat YI] [.dat Y27, .own 2 YI, .dat YI, .own 2 YI, .dat YI, .own 2 YI, .dat .bool, .dat .bool, .dat .bool, .dat YI, .dat Y24, .own 2 YI, .dat YI], .val Y42]
abbrev R_db : List VK := [.s (.dat .bool)]
def F_db (x : denP P_db) : Option (denV R_db × denQ P_db) :=
 if 0 ≤ x.2.1.2.2.1 ∧ x.2.1.2.2.1 < ((x.1.2.2.2.1.length : Nat) : Int) then
 ((x.1.2.2.2.1)[(x.2.1.2.2.1).toNat]?).bind fun y1 =>
 (F_cx (x.2.1.2.2.2.1, ())).bind fun r2 =>
 (F_cw (y1, r2.1.1, ())).bind fun r3 =>
 if (x.2.1.1 == (15 : Int)) then
  (F_cu ((x.1.1, (x.1.2.1, (x.1.2.2.1, ((x.1.2.2.2.1, (x.1.2.2.2.2.1, (x.1.2.2.2.2.2.1, (x.1.2.2.2.2.2.2.1, (x.1.2.2.2.2.2.2.2.1, (x.1.2.2.2.2.2.2.2.2.1, (x.1.2.2.2.2.2.2.2.2.2.1, (x.1.2.2.2.2.2.2.2.2.2.2.1, (x.1.2.2.2.2.2.2.2.2.2.2.2.1, ()))))))))), (x.1.2.2.2.2.2.2.2.2.2.2.2.2.1, ()))))), r3.1.1, (2 : Int), ())).bind fun r4 =>
  if (r4.1.2.1 != (0 : Int)) then
  (F_co (x.1, (4 : Int), r3.1.1, ())).bind fun r5 =>
  some ((false, ()), (r5.2.1, ()))
  else
  if (x.2.1.1 == (14 : Int)) = true then
   if (leI (1000 : Int) r4.1.1) then
   let v6 := (IntKind.i64.wrap (r4.1.1 - (1000 : Int)))
   (F_cz ((x.1.2.2.2.1, (x.1.2.2.2.2.1, (x.1.2.2.2.2.2.1, (x.1.2.2.2.2.2.2.1, (x.1.2.2.2.2.2.2.2.1, (x.1.2.2.2.2.2.2.2.2.1, (x.1.2.2.2.2.2.2.2.2.2.1, (x.1.2.2.2.2.2.2.2.2.2.2.1, (x.1.2.2.2.2.2.2.2.2.2.2.2.1, ()))))))))), v6, ())).bind fun r7 =>
   (F_cy ((x.1.1, (x.1.2.1, (x.1.2.2.1, (r7.2.1.1, (r7.2.1.2.1, (r7.2.1.2.2.1, (r7.2.1.2.2.2.1, (r7.2.1.2.2.2.2.1, (r7.2.1.2.2.2.2.2.1, (r7.2.1.2.2.2.2.2.2.1, (r7.2.1.2.2.2.2.2.2.2.1, (r7.2.1.2.2.2.2.2.2.2.2.1, (x.1.2.2.2.2.2.2.2.2.2.2.2.2.1, ()))))))))))))), x.2.1.2.1, r7.1.1, ())).bind fun r8 =>
   some ((true, ()), (r8.2.1, ()))
   else
   if (x.2.1.1 == (14 : Int)) then
    if 0 ≤ r4.1.1 ∧ r4.1.1 < ((x.1.2.1.length : Nat) : Int) then
    ((x.1.2.1)[(r4.1.1).toNat]?).bind fun y9 =>
    (F_cy (x.1, x.2.1.2.1, y9, ())).bind fun r10 =>
    some ((true, ()), (r10.2.1, ()))
    else none
   else
    if (leI (1000 : Int) r4.1.1) then
    let v11 := (IntKind.i64.wrap (r4.1.1 - (1000 : Int)))
    if 0 ≤ x.2.1.2.1 ∧ x.2.1.2.1 < ((x.1.2.2.2.1.length : Nat) : Int) then
     ((x.1.2.2.2.1)[(x.2.1.2.1).toNat]?).bind fun y12 =>
     (F_da ((x.1.2.2.2.1, (x.1.2.2.2.2.1, (x.1.2.2.2.2.2.1, (x.1.2.2.2.2.2.2.1, (x.1.2.2.2.2.2.2.2.1, (x.1.2.2.2.2.2.2.2.2.1, (x.1.2.2.2.2.2.2.2.2.2.1, (x.1.2.2.2.2.2.2.2.2.2.2.1, (x.1.2.2.2.2.2.2.2.2.2.2.2.1, ()))))))))), v11, y12, ())).bind fun r13 =>
     some ((true, ()), ((x.1.1, (x.1.2.1, (r13.1.1, (r13.2.1.1, (r13.2.1.2.1, (r13.2.1.2.2.1, (r13.2.1.2.2.2.1, (r13.2.1.2.2.2.2.1, (r13.2.1.2.2.2.2.2.1, (r13.2.1.2.2.2.2.2.2.1, (r13.2.1.2.2.2.2.2.2.2.1, (r13.2.1.2.2.2.2.2.2.2.2.1, (x.1.2.2.2.2.2.2.2.2.2.2.2.2.1, ()))))))))))))), ()))
    else none
    else
    if 0 ≤ x.2.1.2.1 ∧ x.2.1.2.1 < ((x.1.2.2.2.1.length : Nat) : Int) then
     ((x.1.2.2.2.1)[(x.2.1.2.1).toNat]?).bind fun y14 =>
     if 0 ≤ r4.1.1 ∧ r4.1.1 < ((x.1.2.1.length : Nat) : Int) then
     ((x.1.2.1)[(r4.1.1).toNat]?).bind fun y15 =>
     let v16 := (x.1.2.1.set (r4.1.1).toNat y14)
     some ((true, ()), ((x.1.1, (v16, (x.1.2.2.1, (x.1.2.2.2.1, (x.1.2.2.2.2.1, (x.1.2.2.2.2.2.1, (x.1.2.2.2.2.2.2.1, (x.1.2.2.2.2.2.2.2.1, (x.1.2.2.2.2.2.2.2.2.1, (x.1.2.2.2.2.2.2.2.2.2.1, (x.1.2.2.2.2.2.2.2.2.2.2.1, (x.1.2.2.2.2.2.2.2.2.2.2.2.1, (x.1.2.2.2.2.2.2.2.2.2.2.2.2.1, ()))))))))))))), ()))
     else none
    else none
  else
   if (x.2.1.1 == (14 : Int)) then
   if 0 ≤ r4.1.1 ∧ r4.1.1 < ((x.1.2.1.length : Nat) : Int) then
    ((x.1.2.1)[(r4.1.1).toNat]?).bind fun y17 =>
    (F_cy (x.1, x.2.1.2.1, y17, ())).bind fun r18 =>
    some ((true, ()), (r18.2.1, ()))
   else none
   else
   if (leI (1000 : Int) r4.1.1) then
    let v19 := (IntKind.i64.wrap (r4.1.1 - (1000 : Int)))
    if 0 ≤ x.2.1.2.1 ∧ x.2.1.2.1 < ((x.1.2.2.2.1.length : Nat) : Int) then
    ((x.1.2.2.2.1)[(x.2.1.2.1).toNat]?).bind fun y20 =>
    (F_da ((x.1.2.2.2.1, (x.1.2.2.2.2.1, (x.1.2.2.2.2.2.1, (x.1.2.2.2.2.2.2.1, (x.1.2.2.2.2.2.2.2.1, (x.1.2.2.2.2.2.2.2.2.1, (x.1.2.2.2.2.2.2.2.2.2.1, (x.1.2.2.2.2.2.2.2.2.2.2.1, (x.1.2.2.2.2.2.2.2.2.2.2.2.1, ()))))))))), v19, y20, ())).bind fun r21 =>
    some ((true, ()), ((x.1.1, (x.1.2.1, (r21.1.1, (r21.2.1.1, (r21.2.1.2.1, (r21.2.1.2.2.1, (r21.2.1.2.2.2.1, (r21.2.1.2.2.2.2.1, (r21.2.1.2.2.2.2.2.1, (r21.2.1.2.2.2.2.2.2.1, (r21.2.1.2.2.2.2.2.2.2.1, (r21.2.1.2.2.2.2.2.2.2.2.1, (x.1.2.2.2.2.2.2.2.2.2.2.2.2.1, ()))))))))))))), ()))
    else none
   else
    if 0 ≤ x.2.1.2.1 ∧ x.2.1.2.1 < ((x.1.2.2.2.1.length : Nat) : Int) then
    ((x.1.2.2.2.1)[(x.2.1.2.1).toNat]?).bind fun y22 =>
    if 0 ≤ r4.1.1 ∧ r4.1.1 < ((x.1.2.1.length : Nat) : Int) then
     ((x.1.2.1)[(r4.1.1).toNat]?).bind fun y23 =>
     let v24 := (x.1.2.1.set (r4.1.1).toNat y22)
     some ((true, ()), ((x.1.1, (v24, (x.1.2.2.1, (x.1.2.2.2.1, (x.1.2.2.2.2.1, (x.1.2.2.2.2.2.1, (x.1.2.2.2.2.2.2.1, (x.1.2.2.2.2.2.2.2.1, (x.1.2.2.2.2.2.2.2.2.1, (x.1.2.2.2.2.2.2.2.2.2.1, (x.1.2.2.2.2.2.2.2.2.2.2.1, (x.1.2.2.2.2.2.2.2.2.2.2.2.1, (x.1.2.2.2.2.2.2.2.2.2.2.2.2.1, ()))))))))))))), ()))
    else none
    else none
 else
  (F_cu ((x.1.1, (x.1.2.1, (x.1.2.2.1, ((x.1.2.2.2.1, (x.1.2.2.2.2.1, (x.1.2.2.2.2.2.1, (x.1.2.2.2.2.2.2.1, (x.1.2.2.2.2.2.2.2.1, (x.1.2.2.2.2.2.2.2.2.1, (x.1.2.2.2.2.2.2.2.2.2.1, (x.1.2.2.2.2.2.2.2.2.2.2.1, (x.1.2.2.2.2.2.2.2.2.2.2.2.1, ()))))))))), (x.1.2.2.2.2.2.2.2.2.2.2.2.2.1, ()))))), r3.1.1, (1 : Int), ())).bind fun r25 =>
  if (r25.1.2.1 != (0 : Int)) then
  (F_co (x.1, (3 : Int), r3.1.1, ())).bind fun r26 =>
  some ((false, ()), (r26.2.1, ()))
  else
  if (x.2.1.1 == (14 : Int)) = true then
   if (leI (1000 : Int) r25.1.1) then
   let v27 := (IntKind.i64.wrap (r25.1.1 - (1000 : Int)))
   (F_cz ((x.1.2.2.2.1, (x.1.2.2.2.2.1, (x.1.2.2.2.2.2.1, (x.1.2.2.2.2.2.2.1, (x.1.2.2.2.2.2.2.2.1, (x.1.2.2.2.2.2.2.2.2.1, (x.1.2.2.2.2.2.2.2.2.2.1, (x.1.2.2.2.2.2.2.2.2.2.2.1, (x.1.2.2.2.2.2.2.2.2.2.2.2.1, ()))))))))), v27, ())).bind fun r28 =>
   (F_cy ((x.1.1, (x.1.2.1, (x.1.2.2.1, (r28.2.1.1, (r28.2.1.2.1, (r28.2.1.2.2.1, (r28.2.1.2.2.2.1, (r28.2.1.2.2.2.2.1, (r28.2.1.2.2.2.2.2.1, (r28.2.1.2.2.2.2.2.2.1, (r28.2.1.2.2.2.2.2.2.2.1, (r28.2.1.2.2.2.2.2.2.2.2.1, (x.1.2.2.2.2.2.2.2.2.2.2.2.2.1, ()))))))))))))), x.2.1.2.1, r28.1.1, ())).bind fun r29 =>
   some ((true, ()), (r29.2.1, ()))
   else
   if (x.2.1.1 == (14 : Int)) then
    if 0 ≤ r25.1.1 ∧ r25.1.1 < ((x.1.2.1.length : Nat) : Int) then
    ((x.1.2.1)[(r25.1.1).toNat]?).bind fun y30 =>
    (F_cy (x.1, x.2.1.2.1, y30, ())).bind fun r31 =>
    some ((true, ()), (r31.2.1, ()))
    else none
   else
    if (leI (1000 : Int) r25.1.1) then
    let v32 := (IntKind.i64.wrap (r25.1.1 - (1000 : Int)))
    if 0 ≤ x.2.1.2.1 ∧ x.2.1.2.1 < ((x.1.2.2.2.1.length : Nat) : Int) then
     ((x.1.2.2.2.1)[(x.2.1.2.1).toNat]?).bind fun y33 =>
     (F_da ((x.1.2.2.2.1, (x.1.2.2.2.2.1, (x.1.2.2.2.2.2.1, (x.1.2.2.2.2.2.2.1, (x.1.2.2.2.2.2.2.2.1, (x.1.2.2.2.2.2.2.2.2.1, (x.1.2.2.2.2.2.2.2.2.2.1, (x.1.2.2.2.2.2.2.2.2.2.2.1, (x.1.2.2.2.2.2.2.2.2.2.2.2.1, ()))))))))), v32, y33, ())).bind fun r34 =>
     some ((true, ()), ((x.1.1, (x.1.2.1, (r34.1.1, (r34.2.1.1, (r34.2.1.2.1, (r34.2.1.2.2.1, (r34.2.1.2.2.2.1, (r34.2.1.2.2.2.2.1, (r34.2.1.2.2.2.2.2.1, (r34.2.1.2.2.2.2.2.2.1, (r34.2.1.2.2.2.2.2.2.2.1, (r34.2.1.2.2.2.2.2.2.2.2.1, (x.1.2.2.2.2.2.2.2.2.2.2.2.2.1, ()))))))))))))), ()))
    else none
    else
    if 0 ≤ x.2.1.2.1 ∧ x.2.1.2.1 < ((x.1.2.2.2.1.length : Nat) : Int) then
     ((x.1.2.2.2.1)[(x.2.1.2.1).toNat]?).bind fun y35 =>
     if 0 ≤ r25.1.1 ∧ r25.1.1 < ((x.1.2.1.length : Nat) : Int) then
     ((x.1.2.1)[(r25.1.1).toNat]?).bind fun y36 =>
     let v37 := (x.1.2.1.set (r25.1.1).toNat y35)
     some ((true, ()), ((x.1.1, (v37, (x.1.2.2.1, (x.1.2.2.2.1, (x.1.2.2.2.2.1, (x.1.2.2.2.2.2.1, (x.1.2.2.2.2.2.2.1, (x.1.2.2.2.2.2.2.2.1, (x.1.2.2.2.2.2.2.2.2.1, (x.1.2.2.2.2.2.2.2.2.2.1, (x.1.2.2.2.2.2.2.2.2.2.2.1, (x.1.2.2.2.2.2.2.2.2.2.2.2.1, (x.1.2.2.2.2.2.2.2.2.2.2.2.2.1, ()))))))))))))), ()))
     else none
    else none
  else
   if (x.2.1.1 == (14 : Int)) then
   if 0 ≤ r25.1.1 ∧ r25.1.1 < ((x.1.2.1.length : Nat) : Int) then
    ((x.1.2.1)[(r25.1.1).toNat]?).bind fun y38 =>
    (F_cy (x.1, x.2.1.2.1, y38, ())).bind fun r39 =>
    some ((true, ()), (r39.2.1, ()))
   else none
   else
   if (leI (1000 : Int) r25.1.1) then
    let v40 := (IntKind.i64.wrap (r25.1.1 - (1000 : Int)))
    if 0 ≤ x.2.1.2.1 ∧ x.2.1.2.1 < ((x.1.2.2.2.1.length : Nat) : Int) then
    ((x.1.2.2.2.1)[(x.2.1.2.1).toNat]?).bind fun y41 =>
    (F_da ((x.1.2.2.2.1, (x.1.2.2.2.2.1, (x.1.2.2.2.2.2.1, (x.1.2.2.2.2.2.2.1, (x.1.2.2.2.2.2.2.2.1, (x.1.2.2.2.2.2.2.2.2.1, (x.1.2.2.2.2.2.2.2.2.2.1, (x.1.2.2.2.2.2.2.2.2.2.2.1, (x.1.2.2.2.2.2.2.2.2.2.2.2.1, ()))))))))), v40, y41, ())).bind fun r42 =>
    some ((true, ()), ((x.1.1, (x.1.2.1, (r42.1.1, (r42.2.1.1, (r42.2.1.2.1, (r42.2.1.2.2.1, (r42.2.1.2.2.2.1, (r42.2.1.2.2.2.2.1, (r42.2.1.2.2.2.2.2.1, (r42.2.1.2.2.2.2.2.2.1, (r42.2.1.2.2.2.2.2.2.2.1, (r42.2.1.2.2.2.2.2.2.2.2.1, (x.1.2.2.2.2.2.2.2.2.2.2.2.2.1, ()))))))))))))), ()))
    else none
   else
    if 0 ≤ x.2.1.2.1 ∧ x.2.1.2.1 < ((x.1.2.2.2.1.length : Nat) : Int) then
    ((x.1.2.2.2.1)[(x.2.1.2.1).toNat]?).bind fun y43 =>
    if 0 ≤ r25.1.1 ∧ r25.1.1 < ((x.1.2.1.length : Nat) : Int) then
     ((x.1.2.1)[(r25.1.1).toNat]?).bind fun y44 =>
     let v45 := (x.1.2.1.set (r25.1.1).toNat y43)
     some ((true, ()), ((x.1.1, (v45, (x.1.2.2.1, (x.1.2.2.2.1, (x.1.2.2.2.2.1, (x.1.2.2.2.2.2.1, (x.1.2.2.2.2.2.2.1, (x.1.2.2.2.2.2.2.2.1, (x.1.2.2.2.2.2.2.2.2.1, (x.1.2.2.2.2.2.2.2.2.2.1, (x.1.2.2.2.2.2.2.2.2.2.2.1, (x.1.2.2.2.2.2.2.2.2.2.2.2.1, (x.1.2.2.2.2.2.2.2.2.2.2.2.2.1, ()))))))))))))), ()))
    else none
    else none
 else none
abbrev C_db : Con := ⟨P_db, R_db, F_db, false⟩
abbrev G_db : Env := [(65, C_cu), (147, C_co), (221, C_cw), (222, C_cx), (223, C_cy), (271, C_cz), (272, C_da)]
theorem g_db : EnvOk Tryz.prog G_db := (env_cons s_cu (env_cons s_co (env_cons s_cw (env_cons s_cx (env_cons s_cy (env_cons s_cz (env_cons s_da env_nil)))))))
theorem r_db (x) : runFn T G_db [] Tryz.f224 P_db R_db x = F_db x := by kernel_rfl
theorem s_db : CallsOk Tryz.prog 224 C_db :=
 fn_calls (L := []) hT g_db Tryz.f224 (by kernel_rfl) (by kernel_rfl) (by kernel_rfl) (plain_ok (by kernel_rfl)) r_db
/-! spec.SignedOf -/
abbrev P_dc : List PK := [.val YI]
abbrev R_dc : List VK := [.s (.dat YI)]
def F_dc (x : denP P_dc) : Option (denV R_dc × denQ P_dc) :=
 let v1 := (IntKind.u32.wrap x.1)
 let v2 := (IntKind.i32.wrap v1)
 let v3 := (IntKind.i64.wrap v2)
 some ((v3, ()), ())
abbrev C_dc : Con := ⟨P_dc, R_dc, F_dc, false⟩
abbrev G_dc : Env := []
theorem g_dc : EnvOk Tryz.prog G_dc := env_nil
theorem r_dc (x) : runFn T G_dc [] Tryz.f273 P_dc R_dc x = F_dc x := by kernel_rfl
theorem s_dc : CallsOk Tryz.prog 273 C_dc :=
 fn_calls (L := []) hT g_dc Tryz.f273 (by kernel_rfl) (by kernel_rfl) (by kernel_rfl) (plain_ok (by kernel_rfl)) r_dc
/-! spec.l10Taken -/
abbrev P_dd : List PK := [.ptr Y25, .val Y42]
abbrev R_dd : List VK := [.s (.dat .bool)]
def F_dd (x : denP P_dd) : Option (denV R_dd × denQ P_dd) :=
 if 0 ≤ x.2.1.2.1 then
 ((x.1.1)[(x.2.1.2.1).toNat]?).bind fun y1 =>
 if 0 ≤ x.2.1.2.2.1 then
  ((x.1.1)[(x.2.1.2.2.1).toNat]?).bind fun y2 =>
  if (x.2.1.1 == (16 : Int)) then
  some (((y1 == y2), ()), ())
  else
  if (x.2.1.1 == (17 : Int)) then
   some (((y1 != y2), ()), ())
  else
   (F_dc (y1, ())).bind fun r3 =>
   (F_dc (y2, ())).bind fun r4 =>
   some (((ltI r3.1.1 r4.1.1), ()), ())
 else none
 else none
abbrev C_dd : Con := ⟨P_dd, R_dd, F_dd, false⟩
abbrev G_dd : Env := [(273, C_dc)]
theorem g_dd : EnvOk Tryz.prog G_dd := (env_cons s_dc env_nil)
theorem r_dd (x) : runFn T G_dd [] Tryz.f225 P_dd R_dd x = F_dd x := by kernel_rfl
theorem s_dd : CallsOk Tryz.prog 225 C_dd :=
 fn_calls (L := []) hT g_dd Tryz.f225 (by kernel_rfl) (by kernel_rfl) (by kernel_rfl) (plain_ok (by kernel_rfl)) r_dd
/-! spec.l8Get -/
abbrev P_de : List PK := [.ptr Y25, .val YI]
abbrev R_de : List VK := [.s (.dat YI)]
def F_de (x : denP P_de) : Option (denV R_de × denQ P_de) :=
 if (x.2.1 == (6 : Int)) then
 (F_cl (x.1, ())).bind fun r1 =>
 some ((r1.1.1, ()), ())
 else
 if (x.2.1 == (8 : Int)) then
  some ((x.1.2.2.2.2.2.2.1, ()), ())
 else
  if 0 ≤ x.2.1 then
  ((x.1.2.2.1)[(x.2.1).toNat]?).bind fun y2 =>
  some ((y2, ()), ())
  else none
abbrev C_de : Con := ⟨P_de, R_de, F_de, false⟩
abbrev G_de : Env := [(148, C_cl)]
theorem g_de : EnvOk Tryz.prog G_de := (env_cons s_cl env_nil)
theorem r_de (x) : runFn T G_de [] Tryz.f226 P_de R_de x = F_de x := by kernel_rfl
theorem s_de : CallsOk Tryz.prog 226 C_de :=
 fn_calls (L := []) hT g_de Tryz.f226 (by kernel_rfl) (by kernel_rfl) (by kernel_rfl) (plain_ok (by kernel_rfl)) r_de
/-! spec.l8Back -/
abbrev P_df : List PK := [.box [.own 2 YI, .dat YI, .own 2 YI, .dat .bool, .dat .bool, .dat .bool, .dat YI, .dat Y24, .own 2 YI] [.own 2 YI, .dat YI, .own 2 YI, .dat .bool, .dat .bool, .dat .bool, .dat YI, .dat Y24, .own 2 YI]]
abbrev R_df : List VK := []
def F_df (x : denP P_df) : Option (denV R_df × denQ P_df) :=
 if 0 ≤ (2 : Int) ∧ (2 : Int) < ((x.1.2.2.1.length : Nat) : Int) then
 ((x.1.2.2.1)[((2 : Int)).toNat]?).bind fun y1 =>
 if 0 ≤ (0 : Int) ∧ (0 : Int) < ((x.1.2.2.1.length : Nat) : Int) then
  ((x.1.2.2.1)[((0 : Int)).toNat]?).bind fun y2 =>
  let v3 := (IntKind.i64.wrap ((y2).tdiv (2 : Int)))
  let v4 := (IntKind.i64.wrap ((2 : Int) + v3))
  if 0 ≤ (0 : Int) ∧ (0 : Int) < ((x.1.2.2.1.length : Nat) : Int) then
  ((x.1.2.2.1)[((0 : Int)).toNat]?).bind fun y5 =>
  let v6 := (x.1.2.2.1.set ((0 : Int)).toNat v4)
  some ((), ((x.1.1, (y1, (v6, (x.1.2.2.2.1, (x.1.2.2.2.2.1, (x.1.2.2.2.2.2.1, (x.1.2.2.2.2.2.2.1, (x.1.2.2.2.2.2.2.2.1, (x.1.2.2.2.2.2.2.2.2.1, ()))))))))), ()))
  else none
 else none
 else none
abbrev C_df : Con := ⟨P_df, R_df, F_df, false⟩
abbrev G_df : Env := []
theorem g_df : EnvOk Tryz.prog G_df := env_nil
theorem r_df (x) : runFn T G_df [] Tryz.f228 P_df R_df x = F_df x := by kernel_rfl
theorem s_df : CallsOk Tryz.prog 228 C_df :=
 fn_calls (L := []) hT g_df Tryz.f228 (by kernel_rfl) (by kernel_rfl) (by kernel_rfl) (plain_ok (by kernel_rfl)) r_df
/-! spec.MulWords -/
abbrev P_dg : List PK := [.val YI, .val YI]
abbrev R_dg : List VK := [.s (.dat YI)]
def F_dg (x : denP P_dg) : Option (denV R_dg × denQ P_dg) :=
 let v1 := (IntKind.u32.wrap x.1)
 let v2 := (IntKind.u32.wrap x.2.1)
 let v3 := (IntKind.u32.wrap (v1 * v2))
 let v4 := (IntKind.i64.wrap v3)
 some ((v4, ()), ())
abbrev C_dg : Con := ⟨P_dg, R_dg, F_dg, false⟩
abbrev G_dg : Env := []
theorem g_dg : EnvOk Tryz.prog G_dg := env_nil
theorem r_dg (x) : runFn T G_dg [] Tryz.f275 P_dg R_dg x = F_dg x := by kernel_rfl
theorem s_dg : CallsOk Tryz.prog 275 C_dg :=
 fn_calls (L := []) hT g_dg Tryz.f275 (by kernel_rfl) (by kernel_rfl) (by kernel_rfl) (plain_ok (by kernel_rfl)) r_dg
end Go.Proofs.YtajnommlfjfgpaaGreatDoor
