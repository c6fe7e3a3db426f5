/- Bytes that a call has made; the law's put. No further condition. -/
import Derived.Test.YtcpngnnnggpfpaaSc
import Derived.Test.YtcpngnnnggpfpaaSu3
namespace Go.Proofs.Ytcpngnnnggpfpaa
open Go.RowKit

structure Bw (w0 W : World) (v : Value) (xs : List Int) : Prop where
  row : W.ownsRow w0.heap.size 5 1 v xs.length (byv xs)
  bel : Below w0.heap.size w0 W
section
variable {w0 W W' : World} {v v' : Value} {xs ys : List Int}
theorem Bw.later (k : Bw w0 W v xs) (h : Below W.heap.size W W') : Bw w0 W' v xs := ⟨ownsRow_later k.row h, k.bel.trans (h.mono k.bel.size)⟩
theorem Bw.grow {W2 : World} (k : Bw w0 W v xs) (h : Below W.heap.size W W') (hg : W'.grownBy W2 v.ownBlock) (ho : W2.ownsRow w0.heap.size 5 1 v' (xs.length + ys.length) (byv xs ++ byv ys)) : Bw w0 W2 v' (xs ++ ys) :=
  ⟨by rw [List.length_append, byv_app]; exact ho, (k.later h).bel.grown hg (k.later h).bel.size fun b hb => (k.row.lt b hb).1⟩
theorem Bw.form (k : Bw w0 W v xs) : ∃ A c, v = .slice A xs.length c ∧ Rd W A (byv xs) ∧ xs.length ≤ c := by
  obtain ⟨A, c, e, h1, h2, -⟩ := own_formc k.row
  exact ⟨A, c, e, h1, h2⟩
theorem Bw.nil (w : World) : Bw w w (.slice none 0 0) [] := ⟨World.ownsRow_nil _ _ _ _, Below.refl _ _⟩
theorem ownsRow_blk {w : World} {g base : Nat} {e : TypeId} {cs : Array Value} {n : Nat} (h : Blk w g e cs) (hn : cs.size = n) (hb : base ≤ g) (hm : n ≤ maxLen) : w.ownsRow base e 1 (.slice (some ⟨g, 0, none⟩) n n) n cs.toList := by
  subst hn
  exact ⟨by simp, .inr ⟨g, cs.size, cs, rfl, hb, h, Nat.le_refl _, hm, by simp, by rw [Nat.mul_one]; exact List.take_of_length_le (by simp)⟩⟩
end
theorem le1 {n : Nat} (h : n < 256) : le 1 n = [(n : Int)] := by simp [le, byteAt]; omega
/-- So many bytes, in a row of a call's own. -/
structure Bn (w0 W : World) (A : Option Addr) (c n : Nat) (xs : List Int) : Prop where
  len : xs.length = n
  row : W.ownsRow w0.heap.size 5 1 (.slice A n c) n (byv xs)
  bel : Below w0.heap.size w0 W
section
variable {w0 W W' W2 : World} {A : Option Addr} {c n m k : Nat} {xs ys : List Int}
theorem Bn.later (k : Bn w0 W A c n xs) (h : Below W.heap.size W W') : Bn w0 W' A c n xs := ⟨k.len, ownsRow_later k.row h, k.bel.trans (h.mono k.bel.size)⟩
theorem Bn.rd (k : Bn w0 W A c n xs) : Rd W A (byv xs) := Rd.of_own k.row
theorem Bn.cap (k : Bn w0 W A c n xs) : n ≤ c := by
  obtain ⟨A', c', e, -, h, -⟩ := own_formc k.row
  injection e with e1 e2 e3
  subst e3
  exact h
theorem Bn.of {v : Value} (k : Bw w0 W v xs) : ∃ A c, v = .slice A xs.length c ∧ Bn w0 W A c xs.length xs := by
  obtain ⟨A, c, rfl, -, -⟩ := k.form
  exact ⟨A, c, rfl, rfl, k.row, k.bel⟩
theorem Bn.blk {g : Nat} {z : Int} (h : Blk W g 5 #[.int .u8 z]) (hb : Below w0.heap.size w0 W) (hg : w0.heap.size ≤ g) : Bn w0 W (some ⟨g, 0, none⟩) 1 1 [z] :=
  ⟨rfl, ownsRow_blk h rfl hg (by unfold maxLen; omega), hb⟩
theorem Bn.nil (w : World) : Bn w w none 0 0 [] := ⟨rfl, World.ownsRow_nil _ _ _ _, Below.refl _ _⟩
end
theorem bn_grow {w0 w w' : World} {A : Option Addr} {c n m k : Nat} {xs ys : List Int} {v : Value} (kb : Bn w0 w A c n xs) (hk : n + m = k) (hm : ys.length = m) (ho : w'.ownsRow w0.heap.size 5 1 v (n + m) (byv xs ++ byv ys)) (hg : w.grownBy w' (Value.slice A n c).ownBlock) :
    ∃ A' c', v = .slice A' k c' ∧ Bn w0 w' A' c' k (xs ++ ys) := by
  subst hk
  obtain ⟨A', c', rfl, -, -, -⟩ := own_formc ho
  exact ⟨A', c', rfl, by rw [List.length_append, kb.len, hm], by rw [byv_app]; exact ho, kb.bel.grown hg kb.bel.size fun b hb => (kb.row.lt b hb).1⟩
theorem appS {ops : Array Oper} {o : Oper} {a : Act} {w w0 : World} {K : Act → World → Prop} {Q : Exit → Act → World → Prop} {E : Prop} {A : Option Addr} {c n : Nat} {xs : List Int} (kb : Bn w0 w A c n xs) (A2 : Option Addr) (m c2 k : Nat) (ys : List Int) (hk : n + m = k) (hm : ys.length = m) (hr : Rd w A2 (byv ys)) (hx : k ≤ 1000000)
    (hgd : o.guard = none) (s x : Operand) (ho : o.op = .call { callee := .builtin .append, args := #[s, x], argTypes := #[47, 47] })
    (hs : a.eval s = .slice A n c) (hx2 : a.eval x = .slice A2 m c2)
    (h : ∀ A' c' w', Bn w0 w' A' c' k (xs ++ ys) → w.grownBy w' (Value.slice A n c).ownBlock → K (a.put o.dst (.slice A' k c')) w') :
    if Region.wanted o (yielded ops a.tmps) = true then Oper.wp Try.prog o a w K Q else E := by
  obtain ⟨i0, hi0, hz0, hz1, hz2⟩ := info_parts (show (Try.prog.info? 5).map (fun i => (i.zero, i.size, i.bytes)) = some (some (.int .u8 0), 1, 1) by kernel_rfl)
  refine step_append_any w hgd s x 47 ho w0.heap.size 5 i0 (.int .u8 0) 1 1 Try.underlying47 hi0 hz0 hz1 hz2 rfl (by decide) (.slice A n c) n (byv xs) hs kb.row A2 m c2 (byv ys) hx2 (by rw [byv_len, hm, Nat.mul_one]) hr (byv_one _) (by unfold maxLen; omega) (by omega) kb.bel.size fun v' w' h1 h2 _ => ?_
  obtain ⟨A', c', rfl, h3⟩ := bn_grow kb hk hm h1 h2
  exact h A' c' w' h3 h2
theorem appW {ops : Array Oper} {rest : List Oper} {o : Oper} {a : Act} {w w0 : World} {Q : Exit → Act → World → Prop} {A : Option Addr} {c n : Nat} {xs : List Int} (kb : Bn w0 w A c n xs) (A2 : Option Addr) (m c2 k : Nat) (ys : List Int) (hk : n + m = k) (hm : ys.length = m) (hr : Rd w A2 (byv ys)) (hx : k ≤ 1000000)
    (hgd : o.guard = none) (s x : Operand) (ho : o.op = .call { callee := .builtin .append, args := #[s, x], argTypes := #[47, 47] })
    (hs : a.eval s = .slice A n c) (hx2 : a.eval x = .slice A2 m c2)
    (h : ∀ A' c' w', Bn w0 w' A' c' k (xs ++ ys) → w.grownBy w' (Value.slice A n c).ownBlock → wpList Try.prog ops Q rest (a.put o.dst (.slice A' k c')) w') :
    wpList Try.prog ops Q (o :: rest) a w := by
  obtain ⟨i0, hi0, hz0, hz1, hz2⟩ := info_parts (show (Try.prog.info? 5).map (fun i => (i.zero, i.size, i.bytes)) = some (some (.int .u8 0), 1, 1) by kernel_rfl)
  refine wpList_append_any w hgd s x 47 ho w0.heap.size 5 i0 (.int .u8 0) 1 1 Try.underlying47 hi0 hz0 hz1 hz2 rfl (by decide) (.slice A n c) n (byv xs) hs kb.row A2 m c2 (byv ys) hx2 (by rw [byv_len, hm, Nat.mul_one]) hr (byv_one _) (by unfold maxLen; omega) (by omega) kb.bel.size fun v' w' h1 h2 _ => ?_
  obtain ⟨A', c', rfl, h3⟩ := bn_grow kb hk hm h1 h2
  exact h A' c' w' h3 h2
theorem lputE (size n : Nat) (z m : Int) (hz : z = size) (hm : m = n) (w : World) (h8 : size ≤ 8) (hn : n < 18446744073709551616) :
    Calls Try.prog 37 #[.int .i64 z, .int .u64 m] w fun e w' => ∃ A c, e = .returned (.slice A size c) ∧ Rd w' A (byv (le size n)) ∧ Below w.heap.size w w' := by
  subst hz hm
  refine (lput_ok size n w h8 hn).mono ?_
  rintro e w' ⟨r, rfl, h1, h2⟩
  obtain ⟨A, c, rfl, h3, -, -⟩ := own_formc h1
  rw [le_len]
  exact ⟨A, c, rfl, h3, h2⟩
theorem lputB {w0 : World} (size n : Nat) (z m : Int) (hz : z = size) (hm : m = n) (w : World) (hb : Below w0.heap.size w0 w) (h8 : size ≤ 8) (hn : n < 18446744073709551616) :
    Calls Try.prog 37 #[.int .i64 z, .int .u64 m] w fun e w' => ∃ A c, e = .returned (.slice A size c) ∧ Bn w0 w' A c size (le size n) ∧ Below w.heap.size w w' := by
  subst hz hm
  refine (lput_ok size n w h8 hn).mono ?_
  rintro e w' ⟨r, rfl, h1, h2⟩
  obtain ⟨A, c, rfl, h3, -, -⟩ := own_formc h1
  rw [le_len] at h1 ⊢
  exact ⟨A, c, rfl, ⟨le_len _ _, ownsRow_base h1 hb.size, hb.trans (h2.mono hb.size)⟩, h2⟩
end Go.Proofs.Ytcpngnnnggpfpaa
