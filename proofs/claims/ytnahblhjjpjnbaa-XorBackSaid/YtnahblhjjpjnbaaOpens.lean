/- This session's own words: an argument that was read as data reads as a list, whatever its elements are. -/
import Derived.Test.YtnahblhjjpjnbaaMy
import Derived.Test.YtnahblhjjpjnbaaWShare
import Derived.Deep.Slices
import Derived.Deep.Fields
import Derived.ChangeSame
import Derived.ProofKit
import Derived.SizedLaws
namespace Go.Proofs.Ytnahblhjjpjnbaa.My
open Go.RowKit Go.ChangeShapes Go.WideShapes Go.Deep Go.Proofs.YtnahblhjjpjnbaaW.PrintWords Go.Proofs.YtnahblhjjpjnbaaW.PrintLast Go.Proofs.YtnahblhjjpjnbaaW.PrintMore

/-- What a kind says looks at the heap alone. -/
def HeapOnly {α : Type} (d : Kd α) : Prop := ∀ (w w' : World) (x : α) (cs : List Value), w'.heap = w.heap → d.K w x cs → d.K w' x cs
theorem heap_int (k : IntKind) : HeapOnly (Kd.int k) := fun _ _ _ _ _ h => h
theorem heap_bool : HeapOnly Kd.bool := fun _ _ _ _ _ h => h
theorem heap_C {α : Type} {d : Kd α} (hd : HeapOnly d) {w w' : World} (he : w'.heap = w.heap) {A : Option Addr} {n : Nat} {xs : List α} (h : Kd.C d w A n xs) : Kd.C d w' A n xs := by
  refine ⟨h.1, h.2.1, fun hn => ?_⟩
  obtain ⟨ad, ha, hc⟩ := h.2.2 hn
  refine ⟨ad, ha, fun j p hj => ?_⟩
  obtain ⟨c, h1, h2, h3⟩ := hc j p hj
  exact ⟨c, h1, hd w w' p c he h2, fun i u hu => (World.cell?_of_block (by rw [he])).trans (h3 i u hu)⟩
theorem heap_slice {α : Type} {d : Kd α} (hd : HeapOnly d) (e : Nat) : HeapOnly (Kd.slice e d) := by
  rintro w w' x cs he ⟨A, c, rfl, hl, hc⟩
  exact ⟨A, c, rfl, hl, heap_C hd he hc⟩
/-- A row that came in reads so in every world in which the old blocks are as they were. -/
theorem F_of_C {α : Type} {d : Kd α} (hd : HeapOnly d) {w : World} {A : Option Addr} {n : Nat} {xs : List α} (h : Kd.C d w A n xs) : Kd.F d w (fun _ => True) A n xs := by
  intro W' hW
  have hs : w.heap.size ≤ W'.heap.size := by
    rcases Nat.eq_zero_or_pos w.heap.size with h0 | h0
    · omega
    · have h1 := hW (w.heap.size - 1) trivial (by omega)
      rw [Array.getElem?_eq_getElem (show w.heap.size - 1 < w.heap.size by omega)] at h1
      obtain ⟨h2, _⟩ := Array.getElem?_eq_some_iff.1 h1
      omega
  have hb : Below w.heap.size w { w with heap := W'.heap } := ⟨rfl, rfl, rfl, hs, fun k hk => hW k trivial hk⟩
  exact heap_C hd (w := { w with heap := W'.heap }) (w' := W') rfl (Kd.C_below h hb)
theorem V_of_C {α : Type} {d : Kd α} (hd : HeapOnly d) {w : World} {A : Option Addr} {xs : List α} {c : Nat} (e base : Nat) (h : Kd.C d w A xs.length xs) (hc : xs.length ≤ c) : Kd.V d e w base (fun _ => True) (.slice A xs.length c) xs :=
  ⟨A, c, rfl, hc, F_of_C hd h⟩

/-- No part of it is greater than the row's reach. -/
def Light {H : Type} (P : Program) (t : TypeId) (d : DataW H) : Prop := ∀ n ∈ DataW.weights P t d, n ≤ reachBytes
theorem weightsAll_mem {H : Type} {P : Program} {e : TypeId} : ∀ {ds : List (DataW H)} {d : DataW H}, d ∈ ds → ∀ n ∈ DataW.weights P e d, n ∈ DataW.weightsAll P e ds
  | d0 :: ds, d, h, n, hn => by
    simp only [DataW.weightsAll, List.mem_append]
    rcases List.mem_cons.1 h with rfl | h
    · exact .inl hn
    · exact .inr (weightsAll_mem h n hn)
theorem Light.elem {H : Type} {P : Program} {t e : TypeId} {elems spare : List (DataW H)} (ht : P.underlying t = some (.slice e)) (h : Light P t (.slice elems spare)) {d : DataW H} (hd : d ∈ elems) : Light P e d := by
  intro n hn
  refine h n ?_
  simp only [DataW.weights, ht, List.mem_cons, List.mem_append]
  exact .inr (.inl (weightsAll_mem hd n hn))
theorem Light.size {H : Type} {P : Program} {t e : TypeId} {elems spare : List (DataW H)} (ht : P.underlying t = some (.slice e)) (h : Light P t (.slice elems spare)) : (elems.length + spare.length) * P.bytesOf e ≤ reachBytes := by
  refine h _ ?_
  simp [DataW.weights, ht]
theorem Light.field {H : Type} {P : Program} {t : TypeId} {fs : Array Field} {parts : List (DataW H)} (ht : P.underlying t = some (.struct fs)) (h : Light P t (.agg parts)) {j : Nat} {f : Field} {d : DataW H} (hf : fs[j]? = some f) (hd : parts[j]? = some d) : Light P f.type d := by
  intro n hn
  refine h n ?_
  simp only [DataW.weights, ht]
  exact DataW.weights_mem_each (j := j) (by simp [hf]) hd n hn
theorem Light.arg {H : Type} {P : Program} {ts : List TypeId} {ds : List (DataW H)} {j : Nat} {t : TypeId} {d : DataW H} (hsz : (DataW.weightsEach P ts ds).all (· ≤ reachBytes) = true) (ht : ts[j]? = some t) (hd : ds[j]? = some d) : Light P t d := by
  intro n hn
  simpa using List.all_eq_true.1 hsz n (DataW.weights_mem_each ht hd n hn)

/-- What reads as data at type t, and is within the reach, reads as an x of kind d. -/
def Opens {H : Type} (enc : TypeId × Value → H) (P : Program) (w : World) {α : Type} (t : TypeId) (d : Kd α) (ok : α → Prop) : Prop :=
  ∀ fuel cs y, DataW.trod enc P w 0 (fun _ => true) true fuel t cs = some y → Light P t y.1 → ∃ x, d.K w x cs ∧ ok x

theorem list_of {α : Type} (Q : Nat → α → Prop) : ∀ n, (∀ i, i < n → ∃ x, Q i x) → ∃ xs : List α, xs.length = n ∧ ∀ i x, xs[i]? = some x → Q i x
  | 0, _ => ⟨[], rfl, fun i x h => by simp at h⟩
  | n + 1, h => by
    obtain ⟨xs, hl, hq⟩ := list_of Q n (fun i hi => h i (by omega))
    obtain ⟨x, hx⟩ := h n (by omega)
    refine ⟨xs ++ [x], by simp [hl], fun i y hy => ?_⟩
    rcases Nat.lt_or_ge i n with hi | hi
    · rw [List.getElem?_append_left (by omega)] at hy
      exact hq i y hy
    · rw [List.getElem?_append_right (by omega)] at hy
      have h0 : i - xs.length = 0 := by
        rcases Nat.eq_zero_or_pos (i - xs.length) with h | h
        · exact h
        · rw [List.getElem?_eq_none (by simp; omega)] at hy; cases hy
      rw [h0] at hy
      have : i = n := by omega
      subst this
      have : x = y := by simpa using hy
      subst this
      exact hx

section
variable {H : Type} {enc : TypeId × Value → H} {P : Program} {w : World} {α : Type}
theorem opens_int {t : TypeId} {k : IntKind} (ht : P.underlying t = some (.int k)) : Opens enc P w t (Kd.int k) (fun n => (Lit.int k n).wf = true) := by
  intro fuel cs y h _
  obtain ⟨n, rfl, _, hw⟩ := DataW.trod_int ht h
  exact ⟨n, rfl, hw⟩
theorem opens_bool {t : TypeId} (ht : P.underlying t = some .bool) : Opens enc P w t Kd.bool (fun _ => True) := by
  intro fuel cs y h _
  obtain ⟨n, rfl, _⟩ := DataW.trod_bool ht h
  exact ⟨n, rfl, trivial⟩
theorem opens_slice {t e : TypeId} {d : Kd α} {ok : α → Prop} (B : Nat) (ht : P.underlying t = some (.slice e)) (hC : P.cellsOf e = d.sz) (hB : P.bytesOf e = B) (ho : Opens enc P w e d ok) :
    Opens enc P w t (Kd.slice e d) (fun xs => xs.length * B ≤ 140737488351232 ∧ ∀ x ∈ xs, ok x) := by
  intro fuel cs y h hL
  rcases open_slice ht h with ⟨rfl, _⟩ | ⟨a, len, cap, m, n, D, Pl, rfl, hb, hl, hm, hmm, hx, hi⟩
  · exact ⟨[], ⟨none, 0, rfl, Nat.le_refl _, rfl, by simp, fun h => absurd h (by simp)⟩, by simp, fun x hx => by simp at hx⟩
  · have hmc : m = cap := by simpa using hmm
    have hm' : cap ≤ 9223372036854775807 := hm
    have each : ∀ i, i < len → ∃ x, (d.K w x ((w.cells? 0 (a.add (i * d.sz)) d.sz).getD []) ∧ ok x) ∧ ∀ j u, ((w.cells? 0 (a.add (i * d.sz)) d.sz).getD [])[j]? = some u → w.cell? (a.add (i * d.sz + j)) = some u := by
      intro i hil
      obtain ⟨cs', hc, ht'⟩ := hi i (by omega)
      obtain ⟨x, hk, hok⟩ := ho _ _ _ ht' (by subst hx; exact hL.elem ht (List.mem_map.2 ⟨i, List.mem_range.2 hil, rfl⟩))
      rw [hC] at hc
      obtain ⟨_, hcl, hat⟩ := World.cells?_some hc
      refine ⟨x, ?_⟩
      rw [hc]
      refine ⟨⟨hk, hok⟩, fun j u hu => ?_⟩
      have hu' : cs'[j]? = some u := hu
      have hj : j < cs'.length := (List.getElem?_eq_some_iff.1 hu').1
      rw [← Go.Deep.add_add, hat j (by omega)]
      exact hu'
    obtain ⟨xs, hxl, hq⟩ := list_of _ len each
    have hsz : len * B ≤ 140737488351232 := by
      subst hx
      have z := hL.size ht
      rw [hB, List.length_map, List.length_range] at z
      exact Nat.le_trans (Nat.mul_le_mul_right _ (Nat.le_add_right _ _)) z
    refine ⟨xs, ⟨some a, cap, by rw [hxl], by omega, ?_⟩, by rw [hxl]; exact hsz, fun x hx => ?_⟩
    · refine ⟨rfl, by omega, fun _ => ⟨a, rfl, fun j p hp => ?_⟩⟩
      obtain ⟨⟨hk, _⟩, hcell⟩ := hq j p hp
      exact ⟨_, d.K_len hk, hk, hcell⟩
    · obtain ⟨i, hi', rfl⟩ := List.getElem_of_mem hx
      exact ((hq i _ (List.getElem?_eq_getElem hi')).1).2
/-- An argument that is a slice. -/
theorem open_row {t e : TypeId} {d : Kd α} {ok : α → Prop} {v : Value} {dd : DataW H} {ps : List MemPlace} (B : Nat) (ht : P.underlying t = some (.slice e)) (hC : P.cellsOf e = d.sz) (hB : P.bytesOf e = B) (ho : Opens enc P w e d ok)
    (h : DataW.Trod enc P w 0 (fun _ => true) true t v dd ps) (hL : Light P t dd) {a : Option Addr} {len cap : Nat} (hv : v = .slice a len cap) :
    ∃ xs : List α, v = .slice a xs.length cap ∧ Kd.C d w a xs.length xs ∧ xs.length ≤ cap ∧ xs.length * B ≤ 140737488351232 ∧ ∀ x ∈ xs, ok x := by
  subst hv
  obtain ⟨fuel, hf⟩ := h
  obtain ⟨xs, ⟨A, c, hcs, hl, hc⟩, hm, hok⟩ := opens_slice B ht hC hB ho _ _ _ hf hL
  simp [Value.cells] at hcs
  obtain ⟨rfl, rfl, rfl⟩ := hcs
  exact ⟨xs, rfl, hc, hl, hm, hok⟩
end
end Go.Proofs.Ytnahblhjjpjnbaa.My
