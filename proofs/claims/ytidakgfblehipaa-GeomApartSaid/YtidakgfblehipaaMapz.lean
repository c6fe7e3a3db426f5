/- Maps from whole numbers to ints, read as functions, and how many keys they have. No further condition. -/
import Derived.Test.YtidakgfblehipaaMap
namespace Go.Proofs.Ytidakgfblehipaa
open Go.RowKit Go.Maps
section
variable {P : Program} {K E T : TypeId} {q : IntKind}
/-- The map in block b reads as f, and has m keys. -/
structure IZ (P : Program) (K E : TypeId) (q : IntKind) (w : World) (b n : Nat) (f : Int → Option Int) (m : Nat) : Prop where
  own : ∃ D : DataW Unit, w.ownsMap P K (plainElem P E) b n D ∧ IsMap D ∧ (∀ i, Maps.has D (.int q i) = (f i).isSome) ∧ (∀ i, D.atKey (.int q i) (.lit (.int .i64 0)) = .lit (.int .i64 ((f i).getD 0))) ∧ Maps.size D = m
theorem IZ.im {w : World} {b n m : Nat} {f : Int → Option Int} (k : IZ P K E q w b n f m) : IM P K E q w b n f := by
  obtain ⟨D, h1, h2, h3, h4, -⟩ := k.own
  exact ⟨D, h1, h2, h3, h4⟩
theorem IZ.made (P : Program) (K E : TypeId) (q : IntKind) (w : World) {b : Nat} (hb : w.heap.size = b) : IZ P K E q (w.alloc (.map #[] 0)) b 0 (fun _ => none) 0 := by
  subst hb
  exact ⟨.map [], World.ownsMap_made w P K _, ⟨[], rfl⟩, fun i => rfl, fun i => rfl, rfl⟩
theorem IZ.fr {w w' : World} {b n m : Nat} {f : Int → Option Int} {S : Nat → Prop} (k : IZ P K E q w b n f m) (h : Fr S w w') (hb : ¬ S b) : IZ P K E q w' b n f m := by
  obtain ⟨D, ⟨es, clock, h0, r⟩, r2⟩ := k.own
  exact ⟨D, ⟨es, clock, (h.block b (Array.getElem?_eq_some_iff.1 h0).1 hb).trans h0, r⟩, r2⟩
theorem IZ.lt {w : World} {b n m : Nat} {f : Int → Option Int} (k : IZ P K E q w b n f m) : b < w.heap.size := k.im.lt
theorem IZ.later {w w' : World} {b n m : Nat} {f : Int → Option Int} (k : IZ P K E q w b n f m) (h : Below w.heap.size w w') : IZ P K E q w' b n f m :=
  k.fr (S := fun b => w.heap.size ≤ b) (Fr.of_below h fun _ _ h => h) (by have := k.lt; omega)
theorem IZ.len {w : World} {b n m : Nat} {f : Int → Option Int} (k : IZ P K E q w b n f m) (M : MT P T K E q) (ty : TypeId) : (Builtin.len_ #[T] ty #[.map (some b)]).run P w = .ok (.int .i64 (m : Int)) w := by
  obtain ⟨D, h1, -, -, -, h5⟩ := k.own
  rw [h1.len M.ht ty, h5]
theorem IZ.store {w : World} {b n m : Nat} {f : Int → Option Int} (k : IZ P K E q w b n f m) (M : MT P T K E q) {i v : Int} (hi : (Lit.int q i).wf = true) (hv : (Lit.int .i64 v).wf = true) (hn : n < maxLen) :
    ∃ w', (Instr.mapUpdate T (.map (some b)) (.int q i) (.int .i64 v)).run P w = .ok () w' ∧ IZ P K E q w' b (n + 1) (updM f i v) (if (f i).isSome then m else m + 1) ∧ w.grownBy w' (some b) := by
  obtain ⟨D, h, hm, hh, ha, hsz⟩ := k.own
  obtain ⟨w', hrun, h', hg⟩ := h.update (int_keyed M.hk) M.ht hn (M.key hi) (plainElem_int M.he hv)
  have hki : WideAt.IsKeyLit (.int q i) := trivial
  refine ⟨w', hrun, ⟨_, h', hm.put _ _, fun x => ?_, fun x => ?_, ?_⟩, hg⟩
  · by_cases hx : x = i
    · subst hx
      rw [has_put_same hm hki]
      simp [updM]
    · rw [has_put_other (by intro e; injection e with _ e; exact hx e), hh]
      simp [updM, hx]
  · by_cases hx : x = i
    · subst hx
      rw [atKey_put_same hm hki]
      simp [updM]
    · rw [atKey_put_other (by intro e; injection e with _ e; exact hx e), ha]
      simp [updM, hx]
  · rw [size_put (h.tidy (int_keyed M.hk)), hh, hsz]
theorem wpList_storez {w : World} {ops : Array Oper} {rest : List Oper} {o : Oper} {a : Act} {Q : Exit → Act → World → Prop} (hg : o.guard = none) (m x y : Operand) (hop : o.op = Op.mapUpdate T m x y)
    (M : MT P T K E q) {b n z : Nat} {f : Int → Option Int} (hm : a.eval m = .map (some b)) (k : IZ P K E q w b n f z) (hn : n < maxLen) {i v : Int} (hx : a.eval x = .int q i) (hy : a.eval y = .int .i64 v) (hi : (Lit.int q i).wf = true) (hv : (Lit.int .i64 v).wf = true)
    (h : ∀ w', IZ P K E q w' b (n + 1) (updM f i v) (if (f i).isSome then z else z + 1) → w.grownBy w' (some b) → wpList P ops Q rest (a.put o.dst undef) w') : wpList P ops Q (o :: rest) a w := by
  refine wpList_plain hg fun K' hK' => ?_
  obtain ⟨w', hrun, r1, r2⟩ := k.store M hi hv hn
  unfold Oper.wp
  simp [execOp, hop, hm, hx, hy, hrun, Result.andThen]
  exact hK' _ _ (h w' r1 r2)
end
end Go.Proofs.Ytidakgfblehipaa
