/- Maps of where blocks lie: the words, and the walks of New, Get. No further condition. -/
import Derived.Test.YtmidbllmdpjgdaaByt
import Derived.Test.YtmidbllmdpjgdaaCut
namespace Go.Proofs.Ytmidbllmdpjgdaa
open Go.RowKit

def ptrv (o : Option Nat) : Value := .pointer (o.map fun b => ⟨b, 0, none⟩)
theorem ptrv_none : ptrv none = .pointer none := rfl
theorem ptrv_some (b : Nat) : ptrv (some b) = .pointer (some ⟨b, 0, none⟩) := rfl
/-- The cells of page p. -/
def pagev (f : Nat → Int) (p : Nat) : Array Value := ((List.range 16).map fun j => Value.int .i64 (f (16 * p + j))).toArray
def rowv (pg : Nat → Option Nat) (np : Nat) : Array Value := ((List.range np).map fun p => ptrv (pg p)).toArray
/-- How many lie somewhere. -/
def cnt (f : Nat → Int) : Nat → Nat
  | 0 => 0
  | n + 1 => cnt f n + (if 0 < f n then 1 else 0)
theorem cnt_le (f : Nat → Int) : ∀ n, cnt f n ≤ n := by
  intro n
  induction n with
  | zero => exact Nat.le_refl _
  | succ n ih => unfold cnt; split <;> omega
/-- A map of n blocks: its own block, the row of its pages, its pages; f: what stands for a block (0: nowhere; else its place, and one). -/
structure Lm (w : World) (B g h n np : Nat) (pg : Nat → Option Nat) (f : Nat → Int) : Prop where
  own : Blk w g 47 #[.int .i64 n, .slice (some ⟨h, 0, none⟩) np np, .int .i64 (cnt f n : Int)]
  row : Blk w h 48 (rowv pg np)
  page : ∀ p b, pg p = some b → Blk w b 49 (pagev f p)
  nil0 : ∀ p, pg p = none → ∀ j, j < 16 → f (16 * p + j) = 0
  inj : ∀ p q b, pg p = some b → pg q = some b → p = q
  bg : B ≤ g
  bh : B ≤ h
  bp : ∀ p b, pg p = some b → B ≤ b
  np1 : n ≤ 16 * np
  np2 : 16 * np < n + 16
  lo : ∀ i, 0 ≤ f i
  hi : ∀ i, f i ≤ 70000
  few : n ≤ 1000
  up : ∀ p b, pg p = some b → p < np
section
variable {w w' : World} {B g h n np : Nat} {pg : Nat → Option Nat} {f : Nat → Int}
def LmS (g h : Nat) (pg : Nat → Option Nat) (b : Nat) : Prop := b = g ∨ b = h ∨ ∃ p, pg p = some b
theorem Lm.fr {S : Nat → Prop} (k : Lm w B g h n np pg f) (q : Fr S w w') (hS : ∀ b, LmS g h pg b → ¬ S b) : Lm w' B g h n np pg f :=
  { k with own := k.own.fr q (hS g (.inl rfl)), row := k.row.fr q (hS h (.inr (.inl rfl))), page := fun p b e => (k.page p b e).fr q (hS b (.inr (.inr ⟨p, e⟩))) }
theorem Lm.later (k : Lm w B g h n np pg f) (q : Below w.heap.size w w') : Lm w' B g h n np pg f :=
  { k with own := k.own.later q, row := k.row.later q, page := fun p b e => (k.page p b e).later q }
theorem Lm.dn (k : Lm w B g h n np pg f) (m : Nat) : Lm (w.drewN m) B g h n np pg f := k.later (below_drewN (Below.refl _ _) m)
theorem Lm.cells (k : Lm w B g h n np pg f) : w.cell? ⟨g, 0, none⟩ = some (.int .i64 n) ∧ w.cell? ⟨g, 1, none⟩ = some (.slice (some ⟨h, 0, none⟩) np np) ∧ w.cell? ⟨g, 2, none⟩ = some (.int .i64 (cnt f n : Int)) := ⟨k.own.at_ rfl, k.own.at_ rfl, k.own.at_ rfl⟩
theorem Lm.ptr (k : Lm w B g h n np pg f) {p : Nat} (hp : p < np) : w.cell? ⟨h, p, none⟩ = some (ptrv (pg p)) := k.row.at_ (by simp [rowv, hp])
theorem Lm.cell (k : Lm w B g h n np pg f) {p j b : Nat} (hp : pg p = some b) (hj : j < 16) : w.cell? ⟨b, j, none⟩ = some (.int .i64 (f (16 * p + j))) := (k.page p b hp).at_ (by simp [pagev, hj])
end
/-- Where a block lies. -/
def gv (n : Nat) (f : Nat → Int) (x : Int) : Int := if 0 ≤ x ∧ x < n then f x.toNat - 1 else -1
theorem gv_in {n : Nat} {f : Nat → Int} {k : Nat} (h : k < n) : gv n f k = f k - 1 := by
  unfold gv
  rw [if_pos (by omega)]
  rfl
theorem gv_out {n : Nat} {f : Nat → Int} {x : Int} (h : x < 0 ∨ (n : Int) ≤ x) : gv n f x = -1 := by
  unfold gv
  rw [if_neg (by omega)]
set_option maxHeartbeats 1600000 in
theorem get_ok (B g h n np : Nat) (pg : Nat → Option Nat) (f : Nat → Int) (x : Int) (w : World) (k : Lm w B g h n np pg f) :
    Calls Try.prog 10 #[.pointer (some ⟨g, 0, none⟩), .int .i64 x] w fun e w' => e = .returned (.int .i64 (gv n f x)) ∧ w' = w := by
  obtain ⟨c0, c1, c2⟩ := k.cells
  have hfew := k.few
  rcases Int.lt_or_le x 0 with hx | hx
  · rw [gv_out (.inl hx)]
    clear k
    go_enter Try.func10, Try.ntmps10
    go_wp2
    go_ret
    exact ⟨rfl, rfl⟩
  rcases Int.lt_or_le x n with hn | hn
  · obtain ⟨i, rfl⟩ := Int.eq_ofNat_of_zero_le hx
    rw [gv_in (by omega)]
    have hpn : i / 16 < np := by have := k.np1; omega
    have hpb : i / 16 ≤ 1000 := by omega
    have g1 : ((i / 16 : Nat) : Int) < np := by omega
    have hq : ((i : Int)).tdiv 16 = ((i / 16 : Nat) : Int) := by rw [Int.tdiv_eq_ediv_of_nonneg (by omega)]; omega
    have hr : ((i : Int)).tmod 16 = ((i % 16 : Nat) : Int) := by rw [Int.tmod_eq_emod_of_nonneg (by omega)]; omega
    have d0 := k.ptr hpn
    have hfi : f i = f (16 * (i / 16) + i % 16) := by congr 1; omega
    have hj : i % 16 < 16 := Nat.mod_lt _ (by decide)
    have l0 := k.lo i
    have l1 := k.hi i
    rcases hp : pg (i / 16) with _ | b
    · have h0 := k.nil0 _ hp _ hj
      rw [← hfi] at h0
      rw [hp, ptrv_none] at d0
      rw [h0]
      generalize i / 16 = p at hpn hq d0 hpb g1
      clear hp hfi k hr hj h0 l0 l1
      go_enter Try.func10, Try.ntmps10
      go_wp2
      go_ret
      exact ⟨rfl, rfl⟩
    · have e0 := k.cell hp hj
      rw [← hfi] at e0
      rw [hp, ptrv_some] at d0
      generalize i / 16 = p at hpn hq d0 hpb g1
      generalize i % 16 = j at hr e0 hj
      clear hp hfi k
      go_enter Try.func10, Try.ntmps10
      go_wp2
      go_ret
      exact ⟨rfl, rfl⟩
  · rw [gv_out (.inr hn)]
    clear k
    go_enter Try.func10, Try.ntmps10
    go_wp2
    go_ret
    exact ⟨rfl, rfl⟩
end Go.Proofs.Ytmidbllmdpjgdaa
