/- The law NoteApart: whatever the input, the call returns true and each argument reads as before. No further condition. -/
import Derived.Test.YtbokddacobohnaaRows
import Derived.Test.YtbokddacobohnaaNta
import Derived.WalkKit
import Derived.ProofKit
import Derived.OpenShut
import Derived.ShutString
import Derived.ChangeOld
import Derived.Below
import Derived.SizedLaws
import Derived.Lib.SmallJoins
import Derived.Test.YtbokddacobohnaaOpn
namespace Go.Proofs.Ytbokddacobohnaa.noteApart
open Go.ChangeShapes Go.WideShapes Go.ChangeAt Go.RowKit Go.Joins Go.Deep
open Go.ChangeMaps (open_string shut_string)
set_option linter.unusedVariables false
set_option linter.unusedSimpArgs false
theorem own : ownKnob Try.prog.godebug = none := by kernel_rfl
theorem laidOut : laidOutB Try.prog = true := by kernel_rfl
set_option maxRecDepth 100000 in
theorem lifted (os : Os) (started : os.Started) (H : Type) (enc : TypeId × Value → H) :
    ReturnsInHanded {} Try.checked os 3 .any (Rows.noteApartSpec.pre6 enc Try.prog Try.f3 Rows.noteApartRow.domain false) (Rows.noteApartSpec.post enc Try.prog Try.f3 false true false false) := by
  refine returnsInHanded_of_change_sized (C := Try.checked) own started (by kernel_rfl) Try.func3
    (ChangeSpec.witness6 (enc := enc) (C := Try.checked) false ⟨#[], #[.int .u64 0, .int .u64 0, .int .u16 0, .int .u16 0, .slice none 0 0, .slice none 0 0], []⟩ 8 (by kernel_rfl) (by kernel_rfl) (by kernel_rfl) (by kernel_rfl)) ?_
  intro W base args ds gs before hval0 hW hcnd hsz0 _
  have hsz : (DataW.weightsEach Try.prog (Try.f3.params.toList ++ Rows.noteApartSpec.plain.varTypes Try.prog) (ds ++ gs)).all (· ≤ reachBytes) = true := hsz0
  have hval : ∀ (j : Nat) t v, Try.f3.params[j]? = some t → args[j]? = some v → Value.okWide Try.prog W .any base t v := hval0
  have hW' := hW
  obtain ⟨p, q, hA0, hV, rfl, hfz, hnd⟩ := hW
  have hA : DataW.TrodAll enc Try.prog W 0 (fun _ => true) true Try.f3.params.toList args.toList ds p := hA0
  rw [Try.params3] at hA hval hsz
  obtain ⟨v0, vs0, d0, ds0, p0, q0, hargs, rfl, rfl, h0, r0⟩ := trodAll_cons hA
  obtain ⟨v1, vs1, d1, ds1, p1, q1, rfl, rfl, rfl, h1, r1⟩ := trodAll_cons r0
  obtain ⟨v2, vs2, d2, ds2, p2, q2, rfl, rfl, rfl, h2, r2⟩ := trodAll_cons r1
  obtain ⟨v3, vs3, d3, ds3, p3, q3, rfl, rfl, rfl, h3, r3⟩ := trodAll_cons r2
  obtain ⟨v4, vs4, d4, ds4, p4, q4, rfl, rfl, rfl, h4, r4⟩ := trodAll_cons r3
  obtain ⟨v5, vs5, d5, ds5, p5, q5, rfl, rfl, rfl, h5, r5⟩ := trodAll_cons r4
  obtain ⟨rfl, rfl, rfl⟩ := trodAll_nil r5
  obtain rfl : args = #[v0, v1, v2, v3, v4, v5] := by cases args; simp_all
  obtain ⟨rfl, rfl⟩ := trodVars_none hV
  obtain ⟨a0, rfl, rfl, rfl, w0⟩ := open_int Try.underlying22 (hval 0 22 v0 rfl rfl) h0
  obtain ⟨a1, rfl, rfl, rfl, w1⟩ := open_int Try.underlying22 (hval 1 22 v1 rfl rfl) h1
  obtain ⟨a2, rfl, rfl, rfl, w2⟩ := open_int Try.underlying23 (hval 2 23 v2 rfl rfl) h2
  obtain ⟨a3, rfl, rfl, rfl, w3⟩ := open_int Try.underlying23 (hval 3 23 v3 rfl rfl) h3
  obtain ⟨a4, len4, cap4, rfl⟩ := okWide_slice Try.underlying24 (hval 4 24 v4 rfl rfl)
  have k4 := h4
  have lt4 : ∀ x ∈ p4, x.block < W.heap.size := by obtain ⟨m, hm⟩ := k4; exact DataW.trod_lt m _ _ _ hm
  have w4 : len4 ≤ maxLen ∧ ∀ i, i < len4 → ∃ x, a4 = some x ∧ ∃ (c4_0 : Int) (c4_1 : Int), W.cell? (x.add (i * 2 + 0)) = some (.int .u8 c4_0) ∧ W.cell? (x.add (i * 2 + 1)) = some (.int .u32 c4_1) ∧ (Lit.int .u8 c4_0).wf = true ∧ (Lit.int .u32 c4_1).wf = true := by
    obtain ⟨fuel, hf⟩ := h4
    rcases open_slice_fields Try.underlying24 Try.underlying45 (by kernel_rfl) (by kernel_rfl) hf with ⟨hcs, _⟩ | ⟨x, l, c, m, D, Pl, hcs, _, hl, hm, hmm, _, hi⟩
    · simp [Value.cells] at hcs
      obtain ⟨rfl, rfl, rfl⟩ := hcs
      exact ⟨Nat.zero_le _, fun i hi => absurd hi (by omega)⟩
    · simp [Value.cells] at hcs
      obtain ⟨rfl, rfl, rfl⟩ := hcs
      refine ⟨by omega, fun i hi' => ?_⟩
      obtain ⟨ys, n, hD, hPl, hlen, hfd⟩ := hi i (by rw [hmm]; split <;> omega)
      obtain ⟨u0, y0, e0, _, t0⟩ := hfd 0 _ rfl
      obtain ⟨b0, g0, _, z0⟩ := DataW.trod_int Try.underlying5 t0
      obtain rfl := List.head_eq_of_cons_eq g0
      obtain ⟨u1, y1, e1, _, t1⟩ := hfd 1 _ rfl
      obtain ⟨b1, g1, _, z1⟩ := DataW.trod_int Try.underlying43 t1
      obtain rfl := List.head_eq_of_cons_eq g1
      exact ⟨x, rfl, b0, b1, e0, e1, z0, z1⟩
  obtain ⟨a5, len5, cap5, rfl⟩ := okWide_slice Try.underlying24 (hval 5 24 v5 rfl rfl)
  have k5 := h5
  have lt5 : ∀ x ∈ p5, x.block < W.heap.size := by obtain ⟨m, hm⟩ := k5; exact DataW.trod_lt m _ _ _ hm
  have w5 : len5 ≤ maxLen ∧ ∀ i, i < len5 → ∃ x, a5 = some x ∧ ∃ (c5_0 : Int) (c5_1 : Int), W.cell? (x.add (i * 2 + 0)) = some (.int .u8 c5_0) ∧ W.cell? (x.add (i * 2 + 1)) = some (.int .u32 c5_1) ∧ (Lit.int .u8 c5_0).wf = true ∧ (Lit.int .u32 c5_1).wf = true := by
    obtain ⟨fuel, hf⟩ := h5
    rcases open_slice_fields Try.underlying24 Try.underlying45 (by kernel_rfl) (by kernel_rfl) hf with ⟨hcs, _⟩ | ⟨x, l, c, m, D, Pl, hcs, _, hl, hm, hmm, _, hi⟩
    · simp [Value.cells] at hcs
      obtain ⟨rfl, rfl, rfl⟩ := hcs
      exact ⟨Nat.zero_le _, fun i hi => absurd hi (by omega)⟩
    · simp [Value.cells] at hcs
      obtain ⟨rfl, rfl, rfl⟩ := hcs
      refine ⟨by omega, fun i hi' => ?_⟩
      obtain ⟨ys, n, hD, hPl, hlen, hfd⟩ := hi i (by rw [hmm]; split <;> omega)
      obtain ⟨u0, y0, e0, _, t0⟩ := hfd 0 _ rfl
      obtain ⟨b0, g0, _, z0⟩ := DataW.trod_int Try.underlying5 t0
      obtain rfl := List.head_eq_of_cons_eq g0
      obtain ⟨u1, y1, e1, _, t1⟩ := hfd 1 _ rfl
      obtain ⟨b1, g1, _, z1⟩ := DataW.trod_int Try.underlying43 t1
      obtain rfl := List.head_eq_of_cons_eq g1
      exact ⟨x, rfl, b0, b1, e0, e1, z0, z1⟩
  have cp5 : len5 ≤ cap5 := by
    obtain ⟨fuel, hf⟩ := h5
    rcases open_slice_fields Try.underlying24 Try.underlying45 (by kernel_rfl) (by kernel_rfl) hf with ⟨hcs, _⟩ | ⟨x, l, c, m, D, Pl, hcs, _, hl, _⟩
    · simp [Value.cells] at hcs
      omega
    · simp [Value.cells] at hcs
      omega
  clear hA0 hval0 hsz0 hsz
  refine (noteApart_true a0 a1 a2 a3 a4 len4 cap4 a5 len5 cap5 W w0 w1 w2 w3 w4 w5 cp5).mono fun e W' ⟨he, bel⟩ => ?_
  subst he
  exact ⟨_, rfl, _, _, _, [], _, [], hW', trodAll_mk1 (shut_bool Try.underlying4 _), (trodAll_cons_mk (shut_int Try.underlying22 w0) (trodAll_cons_mk (shut_int Try.underlying22 w1) (trodAll_cons_mk (shut_int Try.underlying23 w2) (trodAll_cons_mk (shut_int Try.underlying23 w3) (trodAll_cons_mk (Below.trod laidOut (by kernel_rfl) (of_decide_eq_true (by kernel_rfl)) k4 bel lt4) (trodAll_cons_mk (Below.trod laidOut (by kernel_rfl) (of_decide_eq_true (by kernel_rfl)) k5 bel lt5) trodAll_mk0)))))), rfl, bel.frame _, fun h => by cases h⟩
theorem over : Rows.noteApartRow.holds Try.pinned (OpenSpec.ofChange Rows.noteApartSpec) :=
  OpenClaim.holds_of_wide 3 Try.f3 rfl rfl rfl rfl rfl rfl rfl ⟨rfl, rfl, rfl, rfl, rfl⟩ rfl rfl rfl rfl rfl (by kernel_rfl) Try.func3 (by kernel_rfl)
    (of_decide_eq_true (by kernel_rfl)) (by unfold Func.isWrapper; first | (rw [if_pos (by decide +kernel)]; kernel_rfl) | (rw [if_neg (by decide +kernel)]; exact ⟨rfl, rfl⟩))
    (fun os started H enc _ => lifted os started H enc)
theorem proved : Rows.NoteApartSaid := over
end Go.Proofs.Ytbokddacobohnaa.noteApart
namespace Go.Proofs.Ytbokddacobohnaa
/-- The row, under a short name, for the claim. -/
theorem noteApart_holds : Rows.NoteApartSaid := noteApart.proved
#print axioms noteApart_holds
end Go.Proofs.Ytbokddacobohnaa
