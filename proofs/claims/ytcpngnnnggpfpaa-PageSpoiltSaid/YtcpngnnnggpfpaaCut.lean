/- Rows of structs as flat lists, and cuts of slices. No further condition. -/
import Derived.Test.YtcpngnnnggpfpaaKit
import Derived.Laws.ResultCell
namespace Go.Proofs.Ytcpngnnnggpfpaa
open Go.RowKit
section
variable {α : Type} (f : α → List Value) {n : Nat} (hf : ∀ a, (f a).length = n)
include hf
theorem flat_len (l : List α) : (l.flatMap f).length = l.length * n := by
  induction l with
  | nil => simp
  | cons a l ih => rw [List.flatMap_cons, List.length_append, ih, hf, List.length_cons, Nat.succ_mul, Nat.add_comm]
theorem flat_get (l : List α) : ∀ (i k : Nat) (s : α), k < n → l[i]? = some s → (l.flatMap f)[i * n + k]? = (f s)[k]? := by
  induction l with
  | nil => intro i k s _ h; simp at h
  | cons a l ih =>
    intro i k s hk h
    rw [List.flatMap_cons]
    cases i with
    | zero =>
      simp at h
      subst h
      rw [List.getElem?_append_left (by rw [hf]; omega)]
      simp
    | succ i =>
      rw [List.getElem?_append_right (by rw [hf, Nat.succ_mul]; omega)]
      have e : (i + 1) * n + k - (f a).length = i * n + k := by rw [hf, Nat.succ_mul]; omega
      rw [e]
      exact ih i k s hk (by simpa using h)
theorem flat_drop (l : List α) : ∀ k : Nat, (l.flatMap f).drop (k * n) = (l.drop k).flatMap f := by
  induction l with
  | nil => intro k; simp
  | cons a l ih =>
    intro k
    cases k with
    | zero => simp
    | succ k =>
      rw [List.flatMap_cons, List.drop_succ_cons, ← ih k, List.drop_append, List.drop_eq_nil_of_le (by rw [hf, Nat.succ_mul]; omega), List.nil_append, hf, Nat.succ_mul, Nat.add_sub_cancel]
theorem flat_take (l : List α) : ∀ k : Nat, (l.flatMap f).take (k * n) = (l.take k).flatMap f := by
  induction l with
  | nil => intro k; simp
  | cons a l ih =>
    intro k
    cases k with
    | zero => simp
    | succ k =>
      rw [List.flatMap_cons, List.take_succ_cons, List.flatMap_cons, ← ih k, List.take_append, List.take_of_length_le (by rw [hf, Nat.succ_mul]; omega), hf, Nat.succ_mul, Nat.add_sub_cancel]
end
theorem Rd.take_ {w : World} {A : Option Addr} {xs : List Value} (k : Rd w A xs) (n : Nat) : Rd w A (xs.take n) := fun j u hu => by
  rw [List.getElem?_take] at hu
  split at hu
  · exact k j u hu
  · cases hu
theorem Rd.drop_ {w : World} {h o : Nat} {xs : List Value} (k : Rd w (some ⟨h, o, none⟩) xs) (n : Nat) : Rd w (some ⟨h, o + n, none⟩) (xs.drop n) := fun j u hu => by
  rw [List.getElem?_drop] at hu
  obtain ⟨ad, e, hc⟩ := k _ u hu
  injection e with e
  subst e
  refine ⟨_, rfl, ?_⟩
  rw [add_zero_addr] at hc ⊢
  rw [Nat.add_assoc]
  exact hc
theorem Rd.dn {w : World} {A : Option Addr} {xs : List Value} (k : Rd w A xs) (n : Nat) : Rd (w.drewN n) A xs := k.later (below_drewN (Below.refl _ _) n)
/-- What cutting a slice gives. -/
theorem cut_lo_ (t size : Nat) (hu : Try.prog.underlying t = some (.slice (Try.prog.elem t))) (hs : ∀ W, (sizeOf (Try.prog.elem t)).run Try.prog W = .ok size W) (A : Option Addr) (len c n : Nat) (z : Int) (hz : z = n) (hn : n ≤ c) (W : World) :
    (Instr.sliceAt t (.slice A len c) none (some (.int .i64 z)) none).run Try.prog W = .ok (.slice A n c) W := by
  rw [run_sliceAt_slice (h := hu), run_slice_h (ht := hu) (h0 := by omega) (h2 := by omega), hs]
  subst hz
  simp only [Result.andThen, sliced, Int.toNat_natCast, Nat.zero_mul, Nat.sub_zero]
  congr 2
  split
  · rfl
  · rcases A with _ | ad
    · rfl
    · simp [Addr.add]
theorem cut_hi_ (t size : Nat) (hu : Try.prog.underlying t = some (.slice (Try.prog.elem t))) (hs : ∀ W, (sizeOf (Try.prog.elem t)).run Try.prog W = .ok size W) (A : Option Addr) (len c n : Nat) (z : Int) (hz : z = n) (hn : n ≤ len) (W : World) :
    (Instr.sliceAt t (.slice A len c) (some (.int .i64 z)) none none).run Try.prog W = .ok (.slice (if c = n then A else A.map (·.add (n * size))) (len - n) (c - n)) W := by
  rw [run_sliceAt_slice (h := hu), run_slice_l (ht := hu) (h0 := by omega) (h1 := by omega), hs]
  subst hz
  simp only [Result.andThen, sliced, Int.toNat_natCast]
/-- A row's rest, read at where the cut begins. -/
theorem Rd.cut {w : World} {A : Option Addr} {xs : List Value} {size c n len : Nat} (k : Rd w A xs) (hA : ∀ ad, A = some ad → ∃ h o, ad = ⟨h, o, none⟩) (hl : xs.length = len * size) (hc : len ≤ c) (hn : n ≤ len) : Rd w (if c = n then A else A.map (·.add (n * size))) (xs.drop (n * size)) := by
  by_cases hcn : c = n
  · have : len ≤ n := by omega
    have h2 := Nat.mul_le_mul_right size this
    rw [List.drop_eq_nil_of_le (by omega)]
    exact Rd.nil _ _
  · rw [if_neg hcn]
    rcases A with _ | ad
    · intro j u hu
      rw [List.getElem?_drop] at hu
      obtain ⟨ad, e, _⟩ := k _ u hu
      cases e
    · obtain ⟨h, o, rfl⟩ := hA ad rfl
      have := k.drop_ (n * size)
      rw [Option.map_some, show (⟨h, o, none⟩ : Addr).add (n * size) = ⟨h, o + n * size, none⟩ from by simp [Addr.add]]
      exact this
/-- Two results, the first one in a block of its own. -/
theorem results_cell2_row {P : Program} {fn : Func} {p u : Tmp} {ty : TypeId} (h : fn.results = #[.cell p ty, .tmp u]) {tmps : Array Value} {w : World} {g : Nat} {t : TypeId} {cs : Array Value} (d : TypeDesc)
    (hp : tmps.getD p undef = .pointer (some ⟨g, 0, none⟩)) (hg : Blk w g t cs)
    (hu : P.underlying ty = some d) (hd : (match d with | .struct _ | .array _ _ => true | _ => false) = true) (hi : (P.info? ty).map (·.size) = some cs.size) :
    (results fn tmps).run P w = .ok (.tuple #[.agg cs, tmps.getD u undef]) w := by
  rw [results_cell_tmp h, hp]
  simp only [asAddr, Sem.run_pure, Result.andThen_ok, run_loadVar_row w g t ty cs (0, 0) d hg hu hd hi]
end Go.Proofs.Ytcpngnnnggpfpaa
