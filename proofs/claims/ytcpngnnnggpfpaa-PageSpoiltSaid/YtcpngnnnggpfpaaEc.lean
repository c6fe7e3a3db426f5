/- A writer behind a box. No further condition. -/
import Derived.Test.YtcpngnnnggpfpaaNum
import Derived.Test.YtcpngnnnggpfpaaPk4
namespace Go.Proofs.Ytcpngnnnggpfpaa
open Go.RowKit

/-- A slice between calls. -/
def Sl (w : World) (e : Ending) (xs : List Int) : Prop := ∃ A c, e = .returned (.slice A xs.length c) ∧ Rd w A (byv xs) ∧ xs.length ≤ c
/-- A writer behind a box: the box, the writer's block, its row. -/
structure Ec (w0 W : World) (t : TypeId) (cs : Array Value) (v : Value) (xs : List Int) : Prop where
  wr : Wr W (w0.heap.size + 2) (w0.heap.size + 1) v xs
  box : Blk W w0.heap.size t cs
  bel : Below w0.heap.size w0 W
section
variable {w0 W W' : World} {t : TypeId} {cs : Array Value} {v v' : Value} {xs ys : List Int}
theorem Ec.big (k : Ec w0 W t cs v xs) : w0.heap.size + 2 ≤ W.heap.size := k.wr.own.lt
theorem Ec.later (k : Ec w0 W t cs v xs) (h : Below W.heap.size W W') : Ec w0 W' t cs v xs := ⟨k.wr.later h, k.box.later h, k.bel.trans (h.mono k.bel.size)⟩
theorem Ec.put (k : Ec w0 W t cs v xs) (h : WrTo W W' (w0.heap.size + 2) (w0.heap.size + 1) v v' ys) : Ec w0 W' t cs v' ys := by
  have hv : ∀ b, v.ownBlock = some b → w0.heap.size + 2 ≤ b := fun b hb => (k.wr.row.lt b hb).1
  refine ⟨h.wr, k.box.fr h.fr ?_, k.bel.trans (h.fr.toBelow k.bel.size ?_)⟩
  · rintro (e | e)
    · omega
    · have := hv _ e; omega
  · rintro b hb (e | e)
    · omega
    · have := hv _ e; omega
end
theorem WrTo.keep {w w' : World} {B g b : Nat} {t : TypeId} {cs : Array Value} {v v' : Value} {xs : List Int} (k : WrTo w w' B g v v' xs) (hb : Blk w b t cs) (hne : b ≠ g) (hv : v.ownBlock ≠ some b) : Blk w' b t cs ∧ v'.ownBlock ≠ some b := by
  have hlt := hb.lt
  refine ⟨hb.fr k.fr (by rintro (e | e); exact hne e; exact hv e), ?_⟩
  rcases k.row with e | ⟨c, e, hc⟩
  · rw [e]; exact hv
  · rw [e]; intro h; injection h with h; omega
section
variable {w0 W W' : World} {t : TypeId} {cs : Array Value} {v v' : Value} {xs ys : List Int}
theorem own_formc {w : World} {base : Nat} {e : TypeId} {size n : Nat} {v : Value} {xs : List Value} (k : w.ownsRow base e size v n xs) : ∃ A c, v = .slice A n c ∧ Rd w A xs ∧ n ≤ c ∧ ∀ ad, A = some ad → base ≤ ad.block := by
  rcases k.2 with ⟨rfl, rfl⟩ | ⟨g, cap, cur, rfl, h4, _, h5, _⟩
  · exact ⟨none, 0, rfl, Rd.of_own k, Nat.le_refl _, fun _ e => by cases e⟩
  · exact ⟨some ⟨g, 0, none⟩, cap, rfl, Rd.of_own k, h5, fun _ e => by injection e with e; subst e; exact h4⟩
theorem Ec.rd_reset (_k : Ec w0 W t cs v xs) {A : Option Addr} {zs : List Value} (h : Rd W A zs) {B : Nat} (hB : w0.heap.size + 2 ≤ B) (hA : ∀ ad, A = some ad → B ≤ ad.block) : Rd (W.setCell ⟨w0.heap.size + 1, 0, none⟩ (.slice none 0 0)) A zs :=
  h.fr (S := fun b => b = w0.heap.size + 1) ((Fr.refl (fun b => b = w0.heap.size + 1) W).setCell (p := ⟨w0.heap.size + 1, 0, none⟩) (.inl rfl) _) fun ad e => by have := hA ad e; omega
/-- The writer is begun anew. -/
theorem Ec.reset (k : Ec w0 W t cs v xs) : Ec w0 (W.setCell ⟨w0.heap.size + 1, 0, none⟩ (.slice none 0 0)) t cs (.slice none 0 0) [] :=
  ⟨⟨k.wr.own.set_ 0 _, World.ownsRow_nil _ _ _ _⟩, k.box.far (by show w0.heap.size ≠ w0.heap.size + 1; omega) _, k.bel.setCell (p := ⟨w0.heap.size + 1, 0, none⟩) (by simp) _⟩
theorem Ec.dr (k : Ec w0 W t cs v xs) : Ec w0 W.drew t cs v xs := k.later (below_drewN (Below.refl _ _) 1)
theorem putE (k : Ec w0 W t cs v xs) (size n : Nat) (z m : Int) (hz : z = size) (hm : m = n) (h1 : 1 ≤ size) (h8 : size ≤ 8) (hn : n < 18446744073709551616) (hx : xs.length ≤ 1000000) :
    Calls Try.prog 27 #[.pointer (some ⟨w0.heap.size + 1, 0, none⟩), .int .i64 z, .int .u64 m] W fun e w' => e = .returned (.pointer (some ⟨w0.heap.size + 1, 0, none⟩)) ∧ ∃ v', WrTo W w' (w0.heap.size + 2) (w0.heap.size + 1) v v' (xs ++ le size n) ∧ Ec w0 w' t cs v' (xs ++ le size n) := by
  subst hz hm
  refine (put_some (w0.heap.size + 2) (w0.heap.size + 1) v xs size n W k.wr h1 h8 hn hx k.big).mono ?_
  rintro e w' ⟨rfl, v', h⟩
  exact ⟨rfl, v', h, k.put h⟩
end
end Go.Proofs.Ytcpngnnnggpfpaa
