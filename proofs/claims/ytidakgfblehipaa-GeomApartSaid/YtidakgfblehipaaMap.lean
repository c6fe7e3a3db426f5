/- Maps from whole numbers to ints, read as functions: look up, store, len. No further condition. -/
import Derived.Test.YtidakgfblehipaaKit
import Derived.Maps.Views
import Derived.Maps.OwnSet
import Derived.Maps.OwnOps
namespace Go.Proofs.Ytidakgfblehipaa
open Go.RowKit Go.Maps
section
variable {P : Program} {K E T : TypeId} {q : IntKind}

/-- The map in block b reads as f; it has m keys. -/
structure IM (P : Program) (K E : TypeId) (q : IntKind) (w : World) (b n : Nat) (f : Int → Option Int) : Prop where
  own : ∃ D : DataW Unit, w.ownsMap P K (plainElem P E) b n D ∧ IsMap D ∧ (∀ i, Maps.has D (.int q i) = (f i).isSome) ∧ (∀ i, D.atKey (.int q i) (.lit (.int .i64 0)) = .lit (.int .i64 ((f i).getD 0)))
def updM (f : Int → Option Int) (i v : Int) : Int → Option Int := fun x => if x = i then some v else f x
theorem IM.made (P : Program) (K E : TypeId) (q : IntKind) (w : World) {b : Nat} (hb : w.heap.size = b) : IM P K E q (w.alloc (.map #[] 0)) b 0 (fun _ => none) := by
  subst hb
  exact ⟨.map [], World.ownsMap_made w P K _, ⟨[], rfl⟩, fun i => rfl, fun i => rfl⟩
theorem IM.fr {w w' : World} {b n : Nat} {f : Int → Option Int} {S : Nat → Prop} (k : IM P K E q w b n f) (h : Fr S w w') (hb : ¬ S b) : IM P K E q w' b n f := by
  obtain ⟨D, ⟨es, clock, h0, r⟩, r2⟩ := k.own
  exact ⟨D, ⟨es, clock, (h.block b (Array.getElem?_eq_some_iff.1 h0).1 hb).trans h0, r⟩, r2⟩
theorem IM.lt {w : World} {b n : Nat} {f : Int → Option Int} (k : IM P K E q w b n f) : b < w.heap.size := by
  obtain ⟨D, h, _⟩ := k.own
  exact h.lt
theorem IM.later {w w' : World} {b n : Nat} {f : Int → Option Int} (k : IM P K E q w b n f) (h : Below w.heap.size w w') : IM P K E q w' b n f :=
  k.fr (S := fun b => w.heap.size ≤ b) (Fr.of_below h fun _ _ h => h) (by have := k.lt; omega)
theorem IM.not_cells {w : World} {b n : Nat} {f : Int → Option Int} (k : IM P K E q w b n f) {t : TypeId} {cs : Array Value} {g : Nat} (h : Blk w g t cs) : g ≠ b := by
  obtain ⟨D, ⟨es, clock, h0, r⟩, r2⟩ := k.own
  intro e
  subst e
  unfold Blk at h
  rw [h] at h0
  cases h0
theorem IM.not_own {w : World} {b n : Nat} {f : Int → Option Int} (k : IM P K E q w b n f) {base : Nat} {t : TypeId} {size m : Nat} {v : Value} {xs : List Value} (h : w.ownsRow base t size v m xs) : v.ownBlock ≠ some b := by
  rcases h.2 with ⟨rfl, _⟩ | ⟨g, cap, cur, rfl, _, hh, _⟩
  · simp [Value.ownBlock]
  · intro e
    have hg : g = b := by simpa [Value.ownBlock] using e
    exact k.not_cells (g := g) hh hg
/-- A map type with keys of a whole kind and elements int. -/
structure MT (P : Program) (T K E : TypeId) (q : IntKind) : Prop where
  ht : P.underlying T = some (.map K E)
  hk : P.underlying K = some (.int q)
  he : P.underlying E = some (.int .i64)
  hz : ∀ w, (zeroValue E).run P w = .ok (.int .i64 0) w
theorem MT.key (M : MT P T K E q) {i : Int} (hi : (Lit.int q i).wf = true) : keyOf P K (.int q i) = some (.int q i) := by
  simp [keyOf, M.hk, mapKey, hi]
theorem IM.lookup {w : World} {b n : Nat} {f : Int → Option Int} (k : IM P K E q w b n f) (M : MT P T K E q) {i : Int} (hi : (Lit.int q i).wf = true) :
    (Instr.lookup T (.map (some b)) (.int q i) false).run P w = .ok (.int .i64 ((f i).getD 0)) w := by
  obtain ⟨D, h, -, -, ha⟩ := k.own
  obtain ⟨c, hrun, hat, -⟩ := h.lookup_int (int_keyed M.hk) M.ht M.he (M.hz w) (M.key hi)
  rw [ha] at hat
  injection hat with hat
  injection hat with _ hat
  rw [hrun, hat]
theorem IM.look_ok {w : World} {b n : Nat} {f : Int → Option Int} (k : IM P K E q w b n f) (M : MT P T K E q) {i : Int} (hi : (Lit.int q i).wf = true) :
    (Instr.lookup T (.map (some b)) (.int q i) true).run P w = .ok (.tuple #[.int .i64 ((f i).getD 0), .bool (f i).isSome]) w := by
  obtain ⟨D, h, -, hh, ha⟩ := k.own
  obtain ⟨v, ps, hrun, hv⟩ := h.look_ok (int_keyed M.hk) M.ht (M.hz w) (plainElem_int M.he (by decide)) (M.key hi)
  obtain ⟨c, rfl, hc, -⟩ := plainElem_int_inv M.he hv
  rw [ha] at hc
  injection hc with hc _
  injection hc with hc
  injection hc with _ hc
  rw [hrun, hh, hc]
theorem IM.store {w : World} {b n : Nat} {f : Int → Option Int} (k : IM P K E q w b n f) (M : MT P T K E q) {i v : Int} (hi : (Lit.int q i).wf = true) (hv : (Lit.int .i64 v).wf = true) (hn : n < maxLen) :
    ∃ w', (Instr.mapUpdate T (.map (some b)) (.int q i) (.int .i64 v)).run P w = .ok () w' ∧ IM P K E q w' b (n + 1) (updM f i v) ∧ w.grownBy w' (some b) := by
  obtain ⟨D, h, hm, hh, ha⟩ := k.own
  obtain ⟨w', hrun, h', hg⟩ := h.update (int_keyed M.hk) M.ht hn (M.key hi) (plainElem_int M.he hv)
  have hki : WideAt.IsKeyLit (.int q i) := trivial
  refine ⟨w', hrun, ⟨_, h', hm.put _ _, fun x => ?_, fun x => ?_⟩, hg⟩
  · by_cases hx : x = i
    · subst hx
      rw [has_put_same hm hki]
      simp [updM]
    · rw [has_put_other (by intro e; injection e with _ e; exact hx e), hh]
      simp [updM, hx]
  · by_cases hx : x = i
    · subst hx
      rw [atKey_put_same hm hki]
      simp [updM]
    · rw [atKey_put_other (by intro e; injection e with _ e; exact hx e), ha]
      simp [updM, hx]
theorem wpList_store {w : World} {ops : Array Oper} {rest : List Oper} {o : Oper} {a : Act} {Q : Exit → Act → World → Prop} (hg : o.guard = none) (m x y : Operand) (hop : o.op = Op.mapUpdate T m x y)
    (M : MT P T K E q) {b n : Nat} {f : Int → Option Int} (hm : a.eval m = .map (some b)) (k : IM P K E q w b n f) (hn : n < maxLen) {i v : Int} (hx : a.eval x = .int q i) (hy : a.eval y = .int .i64 v) (hi : (Lit.int q i).wf = true) (hv : (Lit.int .i64 v).wf = true)
    (h : ∀ w', IM P K E q w' b (n + 1) (updM f i v) → w.grownBy w' (some b) → wpList P ops Q rest (a.put o.dst undef) w') : wpList P ops Q (o :: rest) a w := by
  refine wpList_plain hg fun K' hK' => ?_
  obtain ⟨w', hrun, r1, r2⟩ := k.store M hi hv hn
  unfold Oper.wp
  simp [execOp, hop, hm, hx, hy, hrun, Result.andThen]
  exact hK' _ _ (h w' r1 r2)
theorem run_makeMap_ (t : TypeId) (w : World) : (Instr.makeMap t none).run P w = .ok (.map (some w.heap.size)) (w.alloc (.map #[] 0)) := rfl
theorem i64_wf {a : Int} (h : -9223372036854775808 ≤ a) (h' : a ≤ 9223372036854775807) : (Lit.int .i64 a).wf = true := by
  simp [Lit.wf, IntKind.min, IntKind.max, IntKind.bits, IntKind.signed]; omega
theorem u64_wf {a : Int} (h : 0 ≤ a) (h' : a ≤ 18446744073709551615) : (Lit.int .u64 a).wf = true := by
  simp [Lit.wf, IntKind.min, IntKind.max, IntKind.bits, IntKind.signed]; omega
end
end Go.Proofs.Ytidakgfblehipaa
