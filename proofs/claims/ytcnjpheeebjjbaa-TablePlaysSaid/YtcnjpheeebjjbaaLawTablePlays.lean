/- The law TablePlays: whatever the input, the call returns true and each argument reads as before. No further condition. -/
import Derived.Test.YtcnjpheeebjjbaaRows
import Derived.Test.YtcnjpheeebjjbaaTb8
import Derived.WalkKit
import Derived.ProofKit
import Derived.OpenShut
import Derived.ShutString
import Derived.ChangeOld
import Derived.Below
import Derived.SizedLaws
import Derived.Lib.SmallJoins
import Derived.Test.YtcnjpheeebjjbaaOpn
namespace Go.Proofs.Ytcnjpheeebjjbaa.tablePlays
open Go.ChangeShapes Go.WideShapes Go.ChangeAt Go.RowKit Go.Joins Go.Deep
open Go.ChangeMaps (open_string shut_string)
set_option linter.unusedVariables false
set_option linter.unusedSimpArgs false
theorem own : ownKnob Try.prog.godebug = none := by kernel_rfl
theorem laidOut : laidOutB Try.prog = true := by kernel_rfl
set_option maxRecDepth 100000 in
theorem lifted (os : Os) (started : os.Started) (H : Type) (enc : TypeId × Value → H) :
    ReturnsInHanded {} Try.checked os 5 .any (Rows.tablePlaysSpec.pre6 enc Try.prog Try.f5 Rows.tablePlaysRow.domain false) (Rows.tablePlaysSpec.post enc Try.prog Try.f5 false true false false) := by
  refine returnsInHanded_of_change_sized (C := Try.checked) own started (by kernel_rfl) Try.func5
    (ChangeSpec.witness6 (enc := enc) (C := Try.checked) false ⟨#[], #[.int .u8 0, .slice none 0 0], []⟩ 8 (by kernel_rfl) (by kernel_rfl) (by kernel_rfl) (by kernel_rfl)) ?_
  intro W base args ds gs before hval0 hW hcnd hsz0 _
  have hsz : (DataW.weightsEach Try.prog (Try.f5.params.toList ++ Rows.tablePlaysSpec.plain.varTypes Try.prog) (ds ++ gs)).all (· ≤ reachBytes) = true := hsz0
  have hval : ∀ (j : Nat) t v, Try.f5.params[j]? = some t → args[j]? = some v → Value.okWide Try.prog W .any base t v := hval0
  have hW' := hW
  obtain ⟨p, q, hA0, hV, rfl, hfz, hnd⟩ := hW
  have hA : DataW.TrodAll enc Try.prog W 0 (fun _ => true) true Try.f5.params.toList args.toList ds p := hA0
  rw [Try.params5] at hA hval hsz
  obtain ⟨v0, vs0, d0, ds0, p0, q0, hargs, rfl, rfl, h0, r0⟩ := trodAll_cons hA
  obtain ⟨v1, vs1, d1, ds1, p1, q1, rfl, rfl, rfl, h1, r1⟩ := trodAll_cons r0
  obtain ⟨rfl, rfl, rfl⟩ := trodAll_nil r1
  obtain rfl : args = #[v0, v1] := by cases args; simp_all
  obtain ⟨rfl, rfl⟩ := trodVars_none hV
  obtain ⟨a0, rfl, rfl, rfl, w0⟩ := open_int Try.underlying5 (hval 0 5 v0 rfl rfl) h0
  obtain ⟨a1, len1, cap1, rfl⟩ := okWide_slice Try.underlying33 (hval 1 33 v1 rfl rfl)
  have k1 := h1
  have lt1 : ∀ x ∈ p1, x.block < W.heap.size := by obtain ⟨m, hm⟩ := k1; exact DataW.trod_lt m _ _ _ hm
  have w1 : len1 ≤ maxLen ∧ ∀ i, i < len1 → ∃ x, a1 = some x ∧ ∃ (c1_0 : Int) (c1_1 : Int) (c1_2 : Int) (c1_3 : Int) (c1_4 : Int), W.cell? (x.add (i * 5 + 0)) = some (.int .i8 c1_0) ∧ W.cell? (x.add (i * 5 + 1)) = some (.int .i8 c1_1) ∧ W.cell? (x.add (i * 5 + 2)) = some (.int .u8 c1_2) ∧ W.cell? (x.add (i * 5 + 3)) = some (.int .i8 c1_3) ∧ W.cell? (x.add (i * 5 + 4)) = some (.int .u64 c1_4) ∧ (Lit.int .i8 c1_0).wf = true ∧ (Lit.int .i8 c1_1).wf = true ∧ (Lit.int .u8 c1_2).wf = true ∧ (Lit.int .i8 c1_3).wf = true ∧ (Lit.int .u64 c1_4).wf = true := by
    obtain ⟨fuel, hf⟩ := h1
    rcases open_slice_fields Try.underlying33 Try.underlying36 (by kernel_rfl) (by kernel_rfl) hf with ⟨hcs, _⟩ | ⟨x, l, c, m, D, Pl, hcs, _, hl, hm, hmm, _, hi⟩
    · simp [Value.cells] at hcs
      obtain ⟨rfl, rfl, rfl⟩ := hcs
      exact ⟨Nat.zero_le _, fun i hi => absurd hi (by omega)⟩
    · simp [Value.cells] at hcs
      obtain ⟨rfl, rfl, rfl⟩ := hcs
      refine ⟨by omega, fun i hi' => ?_⟩
      obtain ⟨ys, n, hD, hPl, hlen, hfd⟩ := hi i (by rw [hmm]; split <;> omega)
      obtain ⟨u0, y0, e0, _, t0⟩ := hfd 0 _ rfl
      obtain ⟨b0, g0, _, z0⟩ := DataW.trod_int Try.underlying34 t0
      obtain rfl := List.head_eq_of_cons_eq g0
      obtain ⟨u1, y1, e1, _, t1⟩ := hfd 1 _ rfl
      obtain ⟨b1, g1, _, z1⟩ := DataW.trod_int Try.underlying34 t1
      obtain rfl := List.head_eq_of_cons_eq g1
      obtain ⟨u2, y2, e2, _, t2⟩ := hfd 2 _ rfl
      obtain ⟨b2, g2, _, z2⟩ := DataW.trod_int Try.underlying5 t2
      obtain rfl := List.head_eq_of_cons_eq g2
      obtain ⟨u3, y3, e3, _, t3⟩ := hfd 3 _ rfl
      obtain ⟨b3, g3, _, z3⟩ := DataW.trod_int Try.underlying34 t3
      obtain rfl := List.head_eq_of_cons_eq g3
      obtain ⟨u4, y4, e4, _, t4⟩ := hfd 4 _ rfl
      obtain ⟨b4, g4, _, z4⟩ := DataW.trod_int Try.underlying28 t4
      obtain rfl := List.head_eq_of_cons_eq g4
      exact ⟨x, rfl, b0, b1, b2, b3, b4, e0, e1, e2, e3, e4, z0, z1, z2, z3, z4⟩
  clear hA0 hval0 hsz0 hsz
  refine (tablePlays_true a0 a1 len1 cap1 W w0 w1).mono fun e W' ⟨he, bel⟩ => ?_
  subst he
  exact ⟨_, rfl, _, _, _, [], _, [], hW', trodAll_mk1 (shut_bool Try.underlying4 _), (trodAll_cons_mk (shut_int Try.underlying5 w0) (trodAll_cons_mk (Below.trod laidOut (by kernel_rfl) (of_decide_eq_true (by kernel_rfl)) k1 bel lt1) trodAll_mk0)), rfl, bel.frame _, fun h => by cases h⟩
theorem over : Rows.tablePlaysRow.holds Try.pinned (OpenSpec.ofChange Rows.tablePlaysSpec) :=
  OpenClaim.holds_of_wide 5 Try.f5 rfl rfl rfl rfl rfl rfl rfl ⟨rfl, rfl, rfl, rfl, rfl⟩ rfl rfl rfl rfl rfl (by kernel_rfl) Try.func5 (by kernel_rfl)
    (of_decide_eq_true (by kernel_rfl)) (by unfold Func.isWrapper; first | (rw [if_pos (by decide +kernel)]; kernel_rfl) | (rw [if_neg (by decide +kernel)]; exact ⟨rfl, rfl⟩))
    (fun os started H enc _ => lifted os started H enc)
theorem proved : Rows.TablePlaysSaid := over
end Go.Proofs.Ytcnjpheeebjjbaa.tablePlays
namespace Go.Proofs.Ytcnjpheeebjjbaa
/-- The row, under a short name, for the claim. -/
theorem tablePlays_holds : Rows.TablePlaysSaid := tablePlays.proved
#print axioms tablePlays_holds
end Go.Proofs.Ytcnjpheeebjjbaa
