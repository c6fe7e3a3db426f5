/- Where things lie (out of the printed walks); maps that are filled key by key. No further condition. -/
import Derived.Test.YtidakgfblehipaaGe
import Derived.Test.YtidakgfblehipaaGx
import Derived.Test.YtidakgfblehipaaMapz
import Derived.Maps.RangeWalk
namespace Go.Proofs.Ytidakgfblehipaa
open Go.RowKit Go.Maps

/-! ### the map of 0 .. n-1, each once -/
def upto (n : Nat) : Int → Option Int := fun i => if 0 ≤ i ∧ i < n then some 1 else none
theorem upto_step (n : Nat) : updM (upto n) (n : Int) 1 = upto (n + 1) := by
  funext i
  unfold updM upto
  by_cases h : i = n
  · rw [if_pos h, if_pos (by omega)]
  · rw [if_neg h]
    by_cases h2 : 0 ≤ i ∧ i < n
    · rw [if_pos h2, if_pos (by omega)]
    · rw [if_neg h2, if_neg (by omega)]
theorem upto_new (n : Nat) : upto n (n : Int) = none := by unfold upto; rw [if_neg (by omega)]
theorem upto_in {n : Nat} {i : Int} (h : (upto n i).isSome = true) : 0 ≤ i ∧ i < n := by
  unfold upto at h
  split at h
  · assumption
  · cases h
theorem upto_one {n : Nat} {i : Int} (h : 0 ≤ i ∧ i < n) : (upto n i).getD 0 = 1 := by unfold upto; rw [if_pos h]; rfl
theorem MTii : MT Try.prog 44 3 3 .i64 := ⟨by kernel_rfl, by kernel_rfl, by kernel_rfl, fun _ => by kernel_rfl⟩
abbrev Iv (w : World) (b n : Nat) : Prop := IZ Try.prog 3 3 .i64 w b n (upto n) n
theorem Iv.made (w : World) {b : Nat} (hb : w.heap.size = b) : Iv (w.alloc (.map #[] 0)) b 0 := by
  have h := IZ.made Try.prog 3 3 .i64 w hb
  have e : upto 0 = fun _ => none := by funext i; unfold upto; rw [if_neg (by omega)]
  unfold Iv
  rw [e]
  exact h
theorem Iv.look {w : World} {b n : Nat} (k : Iv w b n) (hn : n ≤ 10000000) : (Instr.lookup 44 (.map (some b)) (.int .i64 (n : Int)) false).run Try.prog w = .ok (.int .i64 0) w := by
  rw [k.im.lookup MTii (i64_wf (by omega) (by omega)), upto_new]
  rfl
theorem Iv.step {w' : World} {b n : Nat} (h : IZ Try.prog 3 3 .i64 w' b (n + 1) (updM (upto n) (n : Int) 1) (if (upto n (n : Int)).isSome then n else n + 1)) : Iv w' b (n + 1) := by
  rw [upto_step, upto_new] at h
  exact h
section
variable {P : Program} {K E T : TypeId} {q : IntKind}
theorem wpList_insertz {w : World} {ops : Array Oper} {rest : List Oper} {o : Oper} {a : Act} {Q : Exit → Act → World → Prop} (hg : o.guard = none) (m x y : Operand) (hop : o.op = Op.insert T m x y)
    (M : MT P T K E q) {b n z : Nat} {f : Int → Option Int} (hm : a.eval m = .map (some b)) (k : IZ P K E q w b n f z) (hn : n < maxLen) {i v : Int} (hx : a.eval x = .int q i) (hy : a.eval y = .int .i64 v) (hi : (Lit.int q i).wf = true) (hv : (Lit.int .i64 v).wf = true)
    (h : ∀ w', IZ P K E q w' b (n + 1) (updM f i v) (if (f i).isSome then z else z + 1) → w.grownBy w' (some b) → wpList P ops Q rest (a.put o.dst undef) w') : wpList P ops Q (o :: rest) a w := by
  refine wpList_plain hg fun K' hK' => ?_
  obtain ⟨w', hrun, r1, r2⟩ := k.store M hi hv hn
  unfold Oper.wp
  simp [execOp, hop, hm, hx, hy, hrun, Result.andThen]
  exact hK' _ _ (h w' r1 r2)
end
theorem wpList_up {w : World} {ops : Array Oper} {rest : List Oper} {o : Oper} {a : Act} {Q : Exit → Act → World → Prop} (hg : o.guard = none) (m x y : Operand) (hop : o.op = Op.mapUpdate 44 m x y)
    {b n : Nat} (hm : a.eval m = .map (some b)) (k : Iv w b n) (hn : n ≤ 10000000) (hx : a.eval x = .int .i64 (n : Int)) (hy : a.eval y = .int .i64 1)
    (h : ∀ w', Iv w' b (n + 1) → w.grownBy w' (some b) → wpList Try.prog ops Q rest (a.put o.dst undef) w') : wpList Try.prog ops Q (o :: rest) a w :=
  wpList_storez hg m x y hop MTii hm k (by unfold maxLen; omega) hx hy (i64_wf (by omega) (by omega)) (by decide) fun w' h1 h2 => h w' (Iv.step h1) h2

/-! ### where things lie -/
structure Fa (x : Sh) (P A S : Nat) : Prop where
  pg : G.geom_Shape_Pages.f x.m x.b x.s x.t x.n x.l = some (P : Int)
  al : x.s * x.t = A
  sl : x.m - 2 = S
  p1 : 1 ≤ P ∧ P ≤ 1000
  a1 : A ≤ 1000
  s1 : 1 ≤ S ∧ S ≤ 1000
theorem wr64 {x : Int} (h : -9223372036854775808 ≤ x) (g : x ≤ 9223372036854775807) : wrap64 x = x := by unfold wrap64; omega
theorem fa_of {x : Sh} (hm : 3 ≤ x.m ∧ x.m ≤ 5) (hb : 32 ≤ x.b ∧ x.b ≤ 40) (hs : 4 ≤ x.s ∧ x.s ≤ 6) (ht : 2 ≤ x.t ∧ x.t ≤ 3) (hl : 1 ≤ x.l ∧ x.l ≤ 18) : ∃ P A S, Fa x P A S := by
  obtain ⟨A, hA⟩ := Int.eq_ofNat_of_zero_le (show 0 ≤ x.s * x.t from Int.mul_nonneg (by omega) (by omega))
  have a2 : x.s * x.t ≤ 6 * 3 := Int.mul_le_mul (by omega) (by omega) (by omega) (by omega)
  obtain ⟨S, hS⟩ := Int.eq_ofNat_of_zero_le (show 0 ≤ x.m - 2 by omega)
  obtain ⟨q, hq⟩ := Int.eq_ofNat_of_zero_le (show 0 ≤ x.b - 15 by omega)
  obtain ⟨T, hT⟩ := Int.eq_ofNat_of_zero_le (show 0 ≤ 12 + 9 * x.s + 4 * x.l + (x.b - 15) - 1 by omega)
  have hqT : q ≤ T := by omega
  have hdiv : 1 ≤ T / q := (Nat.one_le_div_iff (by omega)).2 hqT
  have hdiv2 : T / q ≤ T := Nat.div_le_self _ _
  refine ⟨T / q, A, S, ?_, hA, hS, ⟨hdiv, by omega⟩, by omega, by omega, by omega⟩
  unfold G.geom_Shape_Pages.f G.geom_Shape_Image.f G.geom_Shape_Page.f
  simp only [Option.bind_some]
  rw [wr64 (x := x.b - 15) (by omega) (by omega), wr64 (x := 9 * x.s) (by omega) (by omega), wr64 (x := 4 * x.l) (by omega) (by omega), wr64 (x := 12 + 9 * x.s) (by omega) (by omega), wr64 (x := 12 + 9 * x.s + 4 * x.l) (by omega) (by omega), wr64 (x := 12 + 9 * x.s + 4 * x.l + (x.b - 15)) (by omega) (by omega), if_neg (by omega), wr64 (x := 12 + 9 * x.s + 4 * x.l + (x.b - 15) - 1) (by omega) (by omega), hT, hq]
  have e : (T : Int).tdiv (q : Int) = ((T / q : Nat) : Int) := by rw [Int.tdiv_eq_ediv_of_nonneg (by omega)]; rfl
  rw [e, wr64 (by omega) (by omega)]
section
variable {x : Sh} {P A S : Nat}
theorem Fa.all (F : Fa x P A S) (W : World) : Calls Try.prog 14 #[.agg #[.int .i64 x.m, .int .i64 x.b, .int .i64 x.s, .int .i64 x.t, .int .i64 x.n, .int .i64 x.l]] W fun e w' => e = .returned (.int .i64 (A : Int)) ∧ Below W.heap.size W w' :=
  G.geom_Shape_All.calls _ _ _ _ _ _ _ W (by have := F.a1; unfold G.geom_Shape_All.f; rw [F.al, wr64 (by omega) (by omega)])
theorem Fa.slots (F : Fa x P A S) (W : World) : Calls Try.prog 19 #[.agg #[.int .i64 x.m, .int .i64 x.b, .int .i64 x.s, .int .i64 x.t, .int .i64 x.n, .int .i64 x.l]] W fun e w' => e = .returned (.int .i64 (S : Int)) ∧ Below W.heap.size W w' :=
  G.geom_Shape_Slots.calls _ _ _ _ _ _ _ W (by have := F.s1; unfold G.geom_Shape_Slots.f; rw [F.sl, wr64 (by omega) (by omega)])
theorem Fa.pages (F : Fa x P A S) (W : World) : Calls Try.prog 21 #[.agg #[.int .i64 x.m, .int .i64 x.b, .int .i64 x.s, .int .i64 x.t, .int .i64 x.n, .int .i64 x.l]] W fun e w' => e = .returned (.int .i64 (P : Int)) ∧ Below W.heap.size W w' :=
  G.geom_Shape_Pages.calls _ _ _ _ _ _ _ W F.pg
theorem Fa.sectors (F : Fa x P A S) (N : Nat) (hN : N = 1 + 2 * P + A) (W : World) : Calls Try.prog 25 #[.agg #[.int .i64 x.m, .int .i64 x.b, .int .i64 x.s, .int .i64 x.t, .int .i64 x.n, .int .i64 x.l]] W fun e w' => e = .returned (.int .i64 (N : Int)) ∧ Below W.heap.size W w' :=
  G.geom_Shape_Sectors.calls _ _ _ _ _ _ _ W (by
    have h1 := F.a1; have h2 := F.p1
    unfold G.geom_Shape_Sectors.f G.geom_Shape_All.f
    rw [F.pg, Option.bind_some, F.al, Option.bind_some, wr64 (x := (A : Int)) (by omega) (by omega), wr64 (x := 2 * (P : Int)) (by omega) (by omega), wr64 (x := 1 + 2 * (P : Int)) (by omega) (by omega), wr64 (by omega) (by omega), hN]
    congr 1)
theorem Fa.stripeAt (F : Fa x P A S) (t z : Nat) (hz : z = 1 + 2 * P + t) (ht : t ≤ 100000) (W : World) : Calls Try.prog 27 #[.agg #[.int .i64 x.m, .int .i64 x.b, .int .i64 x.s, .int .i64 x.t, .int .i64 x.n, .int .i64 x.l], .int .i64 (t : Int)] W fun e w' => e = .returned (.int .i64 (z : Int)) ∧ Below W.heap.size W w' :=
  G.geom_Shape_StripeAt.calls _ _ _ _ _ _ _ _ W (by
    have h2 := F.p1
    unfold G.geom_Shape_StripeAt.f
    rw [F.pg, Option.bind_some, wr64 (x := 2 * (P : Int)) (by omega) (by omega), wr64 (x := 1 + 2 * (P : Int)) (by omega) (by omega), wr64 (by omega) (by omega), hz]
    congr 1)
theorem Fa.pageAt (F : Fa x P A S) (r k z : Nat) (hr : r ≤ 1) (hk : k ≤ 100000) (hz : z = 1 + r * P + k) (W : World) : Calls Try.prog 26 #[.agg #[.int .i64 x.m, .int .i64 x.b, .int .i64 x.s, .int .i64 x.t, .int .i64 x.n, .int .i64 x.l], .int .i64 (r : Int), .int .i64 (k : Int)] W fun e w' => e = .returned (.int .i64 (z : Int)) ∧ Below W.heap.size W w' :=
  G.geom_Shape_PageAt.calls _ _ _ _ _ _ _ _ _ W (by
    have h2 := F.p1
    have h3 := Nat.mul_le_mul hr h2.2
    obtain ⟨y, hy⟩ : ∃ y, y = r * P := ⟨_, rfl⟩
    have hyi : (r : Int) * (P : Int) = (y : Int) := by rw [hy]; rfl
    unfold G.geom_Shape_PageAt.f
    rw [← hy] at hz h3
    rw [F.pg, Option.bind_some, hyi, wr64 (x := (y : Int)) (by omega) (by omega), wr64 (x := 1 + (y : Int)) (by omega) (by omega), wr64 (by omega) (by omega), hz]
    congr 1)
theorem Fa.place (F : Fa x P A S) (t k z : Nat) (ht : t ≤ 1000) (hk : k ≤ 1000) (hz : z = t * S + k) (W : World) : Calls Try.prog 17 #[.agg #[.int .i64 x.m, .int .i64 x.b, .int .i64 x.s, .int .i64 x.t, .int .i64 x.n, .int .i64 x.l], .int .i64 (t : Int), .int .i64 (k : Int)] W fun e w' => e = .returned (.int .i64 (z : Int)) ∧ Below W.heap.size W w' :=
  G.geom_Shape_Place.calls _ _ _ _ _ _ _ _ _ W (by
    have h2 := F.s1
    have h3 := Nat.mul_le_mul ht h2.2
    obtain ⟨y, hy⟩ : ∃ y, y = t * S := ⟨_, rfl⟩
    have hyi : (t : Int) * (S : Int) = (y : Int) := by rw [hy]; rfl
    unfold G.geom_Shape_Place.f G.geom_Shape_Slots.f
    rw [← hy] at hz h3
    rw [F.sl, Option.bind_some, wr64 (x := (S : Int)) (by omega) (by omega), hyi, wr64 (x := (y : Int)) (by omega) (by omega), wr64 (by omega) (by omega), hz]
    congr 1)
end

/-! ### the shape's block beside the maps -/
structure Gw (w0 W : World) (SB b1 n1 : Nat) (x : Sh) : Prop where
  sh : Blk W SB 23 #[.int .i64 x.m, .int .i64 x.b, .int .i64 x.s, .int .i64 x.t, .int .i64 x.n, .int .i64 x.l]
  m1 : Iv W b1 n1
  bel : Below w0.heap.size w0 W
  far : w0.heap.size ≤ b1
structure Gy (w0 W : World) (SB b1 n1 b2 n2 : Nat) (x : Sh) : Prop where
  g : Gw w0 W SB b1 n1 x
  m2 : Iv W b2 n2
  ne : b1 ≠ b2
  far : w0.heap.size ≤ b2
section
variable {w0 W W' : World} {SB b1 n1 b2 n2 : Nat} {x : Sh}
theorem Gw.later (k : Gw w0 W SB b1 n1 x) (h : Below W.heap.size W W') : Gw w0 W' SB b1 n1 x := ⟨k.sh.later h, IZ.later k.m1 h, k.bel.trans (h.mono k.bel.size), k.far⟩
theorem Gw.grow {m : Nat} (k : Gw w0 W SB b1 n1 x) (i : Iv W' b1 m) (hg : W.grownBy W' (some b1)) : Gw w0 W' SB b1 m x :=
  ⟨k.sh.grown hg (fun e => by injection e with e; exact IM.not_cells (IZ.im k.m1) k.sh e), i, k.bel.grown hg k.bel.size (fun b e => by injection e with e; subst e; exact k.far), k.far⟩
theorem Gy.later (k : Gy w0 W SB b1 n1 b2 n2 x) (h : Below W.heap.size W W') : Gy w0 W' SB b1 n1 b2 n2 x := ⟨k.g.later h, IZ.later k.m2 h, k.ne, k.far⟩
theorem Gy.grow1 {m : Nat} (k : Gy w0 W SB b1 n1 b2 n2 x) (i : Iv W' b1 m) (hg : W.grownBy W' (some b1)) : Gy w0 W' SB b1 m b2 n2 x :=
  ⟨k.g.grow i hg, IZ.fr k.m2 (Fr.of_grown hg) (fun e => by injection e with e; exact k.ne e), k.ne, k.far⟩
theorem Gy.grow2 {m : Nat} (k : Gy w0 W SB b1 n1 b2 n2 x) (i : Iv W' b2 m) (hg : W.grownBy W' (some b2)) : Gy w0 W' SB b1 n1 b2 m x :=
  ⟨⟨k.g.sh.grown hg (fun e => by injection e with e; exact IM.not_cells (IZ.im k.m2) k.g.sh e), IZ.fr k.g.m1 (Fr.of_grown hg) (fun e => by injection e with e; exact k.ne e.symm), k.g.bel.grown hg k.g.bel.size (fun b e => by injection e with e; subst e; exact k.far), k.g.far⟩, i, k.ne, k.far⟩
end
end Go.Proofs.Ytidakgfblehipaa
