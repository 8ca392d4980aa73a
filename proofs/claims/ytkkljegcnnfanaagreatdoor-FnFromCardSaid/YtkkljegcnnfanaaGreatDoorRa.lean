/- FnFrom: the law answers true at every input, and leaves its arguments as they are; condition: the table math/bits.deBruijn64tab holds what the text lays; the card ties it. -/
import Derived.Test.YtkkljegcnnfanaaGreatDoorPb5
import Derived.Test.YtkkljegcnnfanaaGreatDoorRows
import Derived.Test.YtkkljegcnnfanaaGreatDoorTie
import Derived.Test.YtkkljegcnnfanaaGreatDoorCards
import Derived.ProofKit
import Derived.OpenShut
import Derived.LaidMore
import Derived.Lay
import Derived.SevenTiedAt
import Derived.Stop.Joined
namespace Go.Proofs.YtkkljegcnnfanaaGreatDoor
open Go Go.ChangeShapes Go.WideShapes Go.ChangeAt Go.RowKit S Go.Proofs
set_option maxRecDepth 100000
set_option linter.unusedVariables false
namespace fnFromRow
theorem own : ownKnob Tryz.prog.godebug = none := by kernel_rfl
theorem laidOut : laidOutB Tryz.prog = true := by kernel_rfl
theorem read : ∀ t ∈ Tryz.f5.params.toList, Tryz.prog.readableRec t = true ∧ t < Tryz.prog.types.size := by
 have h : (Tryz.f5.params.toList.all fun t => Tryz.prog.readableRec t && decide (t < Tryz.prog.types.size)) = true := by kernel_rfl
 intro t ht
 have := List.all_eq_true.1 h t ht
 simpa using this
abbrev laidL : List (String × DataW Unit) := Rows.fnFromRow.laid
theorem tab_cell {W : World} (h : laidMetH Tryz.prog laidL W) (r : Nat) (hr : r < 64) (k : Int) (hk : (match (Rows.laid_math_bits_deBruijn64tab : DataW Unit) with | .agg l => l[r]? | _ => none) = some (.lit (.int .u8 k))) : W.cell? ⟨0, r, none⟩ = some (.int .u8 k) := by
 rw [MakeChecks.laidMetH_plain _ _ _ (by kernel_rfl)] at h
 obtain ⟨ps, ⟨g, t, cs, fuel, p, q, hg, ht, hv, hd, _, _⟩, _, _⟩ := h
 obtain rfl := Osj ((show Tryz.prog.globalNamed "math/bits.deBruijn64tab" = some 0 by kernel_rfl).symm.trans hg)
 obtain rfl := Osj ((show (Tryz.prog.globals[0]?).map (·.type) = some 271 by kernel_rfl).symm.trans ht)
 obtain ⟨xs, m, _, ex, _, hl, hel⟩ := DataW.trod_array Tryz.underlying271 hd
 have c5 : Tryz.prog.cellsOf 5 = 1 := by kernel_rfl
 have hE := hel r hr
 rw [c5, Nat.mul_one, List.getElem?_eq_getElem (by omega)] at hE
 obtain ⟨z, e1, e2, _⟩ := DataW.trod_int Tryz.underlying5 hE
 have e3 : (Rows.laid_math_bits_deBruijn64tab : DataW Unit) = .agg (xs.map (·.1)) := (Prod.mk.inj ex).1
 rw [e3] at hk
 have e4 : (xs.map (·.1))[r]? = some (.lit (.int .u8 k)) := hk
 rw [List.getElem?_map, List.getElem?_eq_getElem (by omega : r < xs.length)] at e4
 have e5 := Osj e4
 simp only at e5
 rw [e2] at e5
 have hz : z = k := by
  injection e5 with e5
  injection e5
 rw [World.var?_cell hg hv r, ← hz]
 have : cs.toList[r]? = some (.int .u8 z) := by
  have h0 : ((cs.toList.drop r).take 1)[0]? = some (.int .u8 z) := by rw [e1]; rfl
  simpa using h0
 simpa using this
theorem cell_heap {W : World} {b r : Nat} {v : Value} (h : W.cell? ⟨b, r, none⟩ = some v) : ∃ c e fz, W.heap[b]? = some (.cells c e fz) ∧ c[r]? = some v := by
 unfold World.cell? at h
 simp only at h
 split at h
 ·rename_i c e fz hc
  exact ⟨c, e, fz, hc, by simpa using h⟩
 ·cases h
theorem gl_met {W : World} (h : laidMetH Tryz.prog laidL W) : ∀ p ∈ GL, ∃ c e fz, W.heap[p.1]? = some (.cells c e fz) ∧ c[p.2.1]? = some p.2.2 := by
 intro p hp
 simp only [GL, List.mem_cons, List.not_mem_nil, or_false] at hp
 rcases hp with rfl | rfl | rfl
 ·exact cell_heap (tab_cell h 0 (by decide) 0 (by kernel_rfl))
 ·exact cell_heap (tab_cell h 1 (by decide) 1 (by kernel_rfl))
 ·exact cell_heap (tab_cell h 3 (by decide) 2 (by kernel_rfl))
theorem lifted (os : Os) (started : os.Started) (H : Type) (enc : TypeId × Value → H) :
  ReturnsInHanded {} Tryz.checked os 5 .any (fun w args => (Rows.fnFromSpec.pre enc Tryz.prog Tryz.f5 Rows.fnFromRow.domain false w args ∧ laidMetH Tryz.prog laidL w) ∧ sizedMet enc Tryz.prog Tryz.f5 (OpenSpec.ofChange Rows.fnFromSpec) false w args)
   (Rows.fnFromSpec.post enc Tryz.prog Tryz.f5 false true false false) := by
 refine returnsInHanded_of_change_and (C := Tryz.checked) (X := fun w _ => laidMetH Tryz.prog laidL w) (fun _ _ _ hh h => h.of_heap hh) own started (by kernel_rfl) Tryz.func5
  (ChangeSpec.witness_shaped (enc := enc) (C := Tryz.checked) (os := os) (X := fun w _ => laidMetH Tryz.prog laidL w) false (World.laidAll Tryz.prog os laidL) #[.slice none 0 0] 8 (World.laidAll_os _ _ _)
   (World.shaped_of_ZipB (by kernel_rfl) (by kernel_rfl)) (by kernel_rfl) (by kernel_rfl) (by kernel_rfl)
   (by rw [MakeChecks.laidMetH_plain _ _ _ (by kernel_rfl)]; exact laidMet_laidAll _ (by kernel_rfl) (by kernel_rfl))) ?_
 intro W base args ds gs before hval hW _ _ hL _
 have hW' := hW
 obtain ⟨p, q, hA, _⟩ := hW
 refine (Qwl (cn := C_hf) q_hf rfl hT hS (ts := Tryz.f5.params.toList) (by kernel_rfl) ⟨rfl, rfl⟩ hA (fun j t v ht hv => hval j t v (by simpa using ht) hv) (fun x hx => ⟨_, Qxp x hx, ?_⟩) rfl (gl_met hL)).mono fun e W' he => ⟨_, he.1, ?_⟩
 ·rintro vs F1 w' S Q B ⟨v, vs', F2, F3, rfl, _, ⟨⟨cs, h1, h2⟩, _⟩, h3, _⟩
  subst h3
  have h2 : cs = [.bool true] := h2
  subst h2
  simp only [Val, isAg] at h1
  simpa using h1.symm
 ·exact Qva (H := H) laidOut read (tb := 4) (by kernel_rfl) (by kernel_rfl) rfl (fun ds hd => by
   have hd : ds.length = 1 := hd
   match ds, hd with
   | [d0], _ => rfl) hW' he.2
end fnFromRow
end Go.Proofs.YtkkljegcnnfanaaGreatDoor
