/- The law LmapPlays: whatever the input, the call returns true and each argument reads as before. No further condition. -/
import Derived.Test.YtmidbllmdpjgdaaRows
import Derived.Test.YtmidbllmdpjgdaaLm6
import Derived.WalkKit
import Derived.ProofKit
import Derived.OpenShut
import Derived.ShutString
import Derived.ChangeOld
import Derived.Below
import Derived.SizedLaws
import Derived.Lib.SmallJoins
import Derived.Test.YtmidbllmdpjgdaaOpn
namespace Go.Proofs.Ytmidbllmdpjgdaa.lmapPlays
open Go.ChangeShapes Go.WideShapes Go.ChangeAt Go.RowKit Go.Joins Go.Deep
open Go.ChangeMaps (open_string shut_string)
set_option linter.unusedVariables false
set_option linter.unusedSimpArgs false
theorem own : ownKnob Try.prog.godebug = none := by kernel_rfl
theorem laidOut : laidOutB Try.prog = true := by kernel_rfl
set_option maxRecDepth 100000 in
theorem lifted (os : Os) (started : os.Started) (H : Type) (enc : TypeId × Value → H) :
    ReturnsInHanded {} Try.checked os 6 .any (Rows.lmapPlaysSpec.pre6 enc Try.prog Try.f6 Rows.lmapPlaysRow.domain false) (Rows.lmapPlaysSpec.post enc Try.prog Try.f6 false true false false) := by
  refine returnsInHanded_of_change_sized (C := Try.checked) own started (by kernel_rfl) Try.func6
    (ChangeSpec.witness6 (enc := enc) (C := Try.checked) false ⟨#[], #[.int .u8 0, .slice none 0 0], []⟩ 8 (by kernel_rfl) (by kernel_rfl) (by kernel_rfl) (by kernel_rfl)) ?_
  intro W base args ds gs before hval0 hW hcnd hsz0 _
  have hsz : (DataW.weightsEach Try.prog (Try.f6.params.toList ++ Rows.lmapPlaysSpec.plain.varTypes Try.prog) (ds ++ gs)).all (· ≤ reachBytes) = true := hsz0
  have hval : ∀ (j : Nat) t v, Try.f6.params[j]? = some t → args[j]? = some v → Value.okWide Try.prog W .any base t v := hval0
  have hW' := hW
  obtain ⟨p, q, hA0, hV, rfl, hfz, hnd⟩ := hW
  have hA : DataW.TrodAll enc Try.prog W 0 (fun _ => true) true Try.f6.params.toList args.toList ds p := hA0
  rw [Try.params6] at hA hval hsz
  obtain ⟨v0, vs0, d0, ds0, p0, q0, hargs, rfl, rfl, h0, r0⟩ := trodAll_cons hA
  obtain ⟨v1, vs1, d1, ds1, p1, q1, rfl, rfl, rfl, h1, r1⟩ := trodAll_cons r0
  obtain ⟨rfl, rfl, rfl⟩ := trodAll_nil r1
  obtain rfl : args = #[v0, v1] := by cases args; simp_all
  obtain ⟨rfl, rfl⟩ := trodVars_none hV
  obtain ⟨a0, rfl, rfl, rfl, w0⟩ := open_int Try.underlying5 (hval 0 5 v0 rfl rfl) h0
  obtain ⟨a1, len1, cap1, rfl⟩ := okWide_slice Try.underlying22 (hval 1 22 v1 rfl rfl)
  have k1 := h1
  have lt1 : ∀ x ∈ p1, x.block < W.heap.size := by obtain ⟨m, hm⟩ := k1; exact DataW.trod_lt m _ _ _ hm
  have w1 : len1 ≤ maxLen ∧ ∀ i, i < len1 → ∃ x, a1 = some x ∧ ∃ (c1_0 : Int) (c1_1 : Int), W.cell? (x.add (i * 2 + 0)) = some (.int .i8 c1_0) ∧ W.cell? (x.add (i * 2 + 1)) = some (.int .i16 c1_1) ∧ (Lit.int .i8 c1_0).wf = true ∧ (Lit.int .i16 c1_1).wf = true := by
    obtain ⟨fuel, hf⟩ := h1
    rcases open_slice_fields Try.underlying22 Try.underlying29 (by kernel_rfl) (by kernel_rfl) hf with ⟨hcs, _⟩ | ⟨x, l, c, m, D, Pl, hcs, _, hl, hm, hmm, _, hi⟩
    · simp [Value.cells] at hcs
      obtain ⟨rfl, rfl, rfl⟩ := hcs
      exact ⟨Nat.zero_le _, fun i hi => absurd hi (by omega)⟩
    · simp [Value.cells] at hcs
      obtain ⟨rfl, rfl, rfl⟩ := hcs
      refine ⟨by omega, fun i hi' => ?_⟩
      obtain ⟨ys, n, hD, hPl, hlen, hfd⟩ := hi i (by rw [hmm]; split <;> omega)
      obtain ⟨u0, y0, e0, _, t0⟩ := hfd 0 _ rfl
      obtain ⟨b0, g0, _, z0⟩ := DataW.trod_int Try.underlying27 t0
      obtain rfl := List.head_eq_of_cons_eq g0
      obtain ⟨u1, y1, e1, _, t1⟩ := hfd 1 _ rfl
      obtain ⟨b1, g1, _, z1⟩ := DataW.trod_int Try.underlying23 t1
      obtain rfl := List.head_eq_of_cons_eq g1
      exact ⟨x, rfl, b0, b1, e0, e1, z0, z1⟩
  clear hA0 hval0 hsz0 hsz
  refine (lmapPlays_true a0 a1 len1 cap1 W w0 w1).mono fun e W' ⟨he, bel⟩ => ?_
  subst he
  exact ⟨_, rfl, _, _, _, [], _, [], hW', trodAll_mk1 (shut_bool Try.underlying4 _), (trodAll_cons_mk (shut_int Try.underlying5 w0) (trodAll_cons_mk (Below.trod laidOut (by kernel_rfl) (of_decide_eq_true (by kernel_rfl)) k1 bel lt1) trodAll_mk0)), rfl, bel.frame _, fun h => by cases h⟩
theorem over : Rows.lmapPlaysRow.holds Try.pinned (OpenSpec.ofChange Rows.lmapPlaysSpec) :=
  OpenClaim.holds_of_wide 6 Try.f6 rfl rfl rfl rfl rfl rfl rfl ⟨rfl, rfl, rfl, rfl, rfl⟩ rfl rfl rfl rfl rfl (by kernel_rfl) Try.func6 (by kernel_rfl)
    (of_decide_eq_true (by kernel_rfl)) (by unfold Func.isWrapper; first | (rw [if_pos (by decide +kernel)]; kernel_rfl) | (rw [if_neg (by decide +kernel)]; exact ⟨rfl, rfl⟩))
    (fun os started H enc _ => lifted os started H enc)
theorem proved : Rows.LmapPlaysSaid := over
end Go.Proofs.Ytmidbllmdpjgdaa.lmapPlays
namespace Go.Proofs.Ytmidbllmdpjgdaa
/-- The row, under a short name, for the claim. -/
theorem lmapPlays_holds : Rows.LmapPlaysSaid := lmapPlays.proved
#print axioms lmapPlays_holds
end Go.Proofs.Ytmidbllmdpjgdaa
