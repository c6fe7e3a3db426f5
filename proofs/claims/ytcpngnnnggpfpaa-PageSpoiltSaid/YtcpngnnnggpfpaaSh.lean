/- Shapes as values: which may be; what Check, and the law's May, tell (out of the printed walks). No further condition. -/
import Derived.Test.YtcpngnnnggpfpaaKit
import Derived.Test.YtcpngnnnggpfpaaQx
namespace Go.Proofs.Ytcpngnnnggpfpaa
open Go.RowKit

structure Sh where
  m : Int
  b : Int
  s : Int
  t : Int
  n : Int
  l : Int
deriving DecidableEq
def shv (x : Sh) : Array Value := #[.int .i64 x.m, .int .i64 x.b, .int .i64 x.s, .int .i64 x.t, .int .i64 x.n, .int .i64 x.l]
structure Sm (x : Sh) : Prop where
  m : 0 ≤ x.m ∧ x.m < 4294967296
  b : 0 ≤ x.b ∧ x.b < 4294967296
  s : 0 ≤ x.s ∧ x.s < 4294967296
  t : 0 ≤ x.t ∧ x.t < 4294967296
  n : 0 ≤ x.n ∧ x.n < 4294967296
  l : 0 ≤ x.l ∧ x.l < 4294967296
/-- Is a number from one to another one? -/
def inB (n a b : Int) : Bool := decide (a ≤ n ∧ n ≤ b)
/-- May a shape be? -/
def mayB (x : Sh) : Bool := inB x.m 3 16 && inB x.s 4 64 && inB x.t 2 16 && inB x.b (mxI (15 + 5 * (x.m - 2)) 32) 512 && inB x.n (x.m - 2) (mnI (x.t * (x.m - 2)) 256) && inB x.l 1 ((x.s - 3) * (x.t - 1) * (x.m - 2))
theorem inB_iff (n a b : Int) : inB n a b = true ↔ a ≤ n ∧ n ≤ b := by simp [inB]
theorem inB_false (n a b : Int) : inB n a b = false ↔ n < a ∨ b < n := by
  unfold inB
  rw [decide_eq_false_iff_not]
  omega
theorem mxI_eq (a b : Int) : Go.Proofs.YtcpngnnnggpfpaaW.PrintWords.mx a b = mxI a b := by
  unfold Go.Proofs.YtcpngnnnggpfpaaW.PrintWords.mx mxI
  rfl
theorem mnI_eq (a b : Int) : Go.Proofs.YtcpngnnnggpfpaaW.PrintWords.mn a b = mnI a b := by
  unfold Go.Proofs.YtcpngnnnggpfpaaW.PrintWords.mn mnI
  rfl
structure Mid (x : Sh) : Prop where
  m : 3 ≤ x.m ∧ x.m ≤ 16
  s : 4 ≤ x.s ∧ x.s ≤ 64
  t : 2 ≤ x.t ∧ x.t ≤ 16
theorem Mid.st {x : Sh} (k : Mid x) : 1 ≤ (x.s - 3) * (x.t - 1) ∧ (x.s - 3) * (x.t - 1) ≤ 915 := by
  have h1 := k.s
  have h2 := k.t
  have a : 1 * 1 ≤ (x.s - 3) * (x.t - 1) := Int.mul_le_mul (by omega) (by omega) (by omega) (by omega)
  have b : (x.s - 3) * (x.t - 1) ≤ 61 * 15 := Int.mul_le_mul (by omega) (by omega) (by omega) (by omega)
  omega
theorem Mid.most {x : Sh} (k : Mid x) : 1 ≤ (x.s - 3) * (x.t - 1) * (x.m - 2) ∧ (x.s - 3) * (x.t - 1) * (x.m - 2) ≤ 12810 := by
  have h1 := k.st
  have h2 := k.m
  have a : 1 * 1 ≤ (x.s - 3) * (x.t - 1) * (x.m - 2) := Int.mul_le_mul (by omega) (by omega) (by omega) (by omega)
  have b : (x.s - 3) * (x.t - 1) * (x.m - 2) ≤ 915 * 14 := Int.mul_le_mul (by omega) (by omega) (by omega) (by omega)
  omega
theorem Mid.tm {x : Sh} (k : Mid x) : 2 ≤ x.t * (x.m - 2) ∧ x.t * (x.m - 2) ≤ 224 := by
  have h1 := k.t
  have h2 := k.m
  have a : 2 * 1 ≤ x.t * (x.m - 2) := Int.mul_le_mul (by omega) (by omega) (by omega) (by omega)
  have b : x.t * (x.m - 2) ≤ 16 * 14 := Int.mul_le_mul (by omega) (by omega) (by omega) (by omega)
  omega
namespace Q
open Go.Proofs.YtcpngnnnggpfpaaW.PrintWords Go.Proofs.YtcpngnnnggpfpaaW.PrintLast Go.Proofs.YtcpngnnnggpfpaaW.PrintMore
theorem in_eq (a b c : Int) : geom_in.f a b c = some (inB a b c) := by
  unfold geom_in.f inB
  by_cases h : b ≤ a
  · rw [if_pos h]
    by_cases h2 : a ≤ c <;> simp [h, h2]
  · rw [if_neg h]
    simp [h]
def GoodB (a0 a1 a2 a3 a4 a5 : Int) : Bool :=
  inB a0 3 16 && inB a2 4 64 && inB a3 2 16 && inB a1 (mx (wrap64 (15 + wrap64 (5 * wrap64 (a0 - 2)))) 32) 512 && inB a4 (wrap64 (a0 - 2)) (mn (wrap64 (a3 * wrap64 (a0 - 2))) 256) &&
    inB a5 1 (wrap64 (wrap64 (wrap64 (a2 - 3) * wrap64 (a3 - 1)) * wrap64 (a0 - 2)))
theorem check_eq (a0 a1 a2 a3 a4 a5 : Int) (k : Nat) : geom_Shape_Check.f (k + 1) a0 a1 a2 a3 a4 a5 = some (if GoodB a0 a1 a2 a3 a4 a5 = true then 0 else 1) := by
  have z (b : Bool) : b = true ∨ b = false := by cases b <;> simp
  rcases z (inB a0 3 16) with h0 | h0 <;> rcases z (inB a2 4 64) with h1 | h1 <;> rcases z (inB a3 2 16) with h2 | h2 <;> rcases z (inB a1 (mx (wrap64 (15 + wrap64 (5 * wrap64 (a0 - 2)))) 32) 512) with h3 | h3 <;>
    rcases z (inB a4 (wrap64 (a0 - 2)) (mn (wrap64 (a3 * wrap64 (a0 - 2))) 256)) with h4 | h4 <;> rcases z (inB a5 1 (wrap64 (wrap64 (wrap64 (a2 - 3) * wrap64 (a3 - 1)) * wrap64 (a0 - 2)))) with h5 | h5 <;>
    simp [geom_Shape_Check.f, geom_Shape_Check.j0, in_eq, geom_Shape_Note.f, geom_Shape_Slots.f, geom_Shape_Most.f, GoodB, h0, h1, h2, h3, h4, h5]

theorem le_mn (a b c : Int) : a ≤ mn b c ↔ a ≤ b ∧ a ≤ c := by unfold mn; split <;> omega
theorem mx_le (a b c : Int) : mx a b ≤ c ↔ a ≤ c ∧ b ≤ c := by unfold mx; split <;> omega
theorem good_iff (a0 a1 a2 a3 a4 a5 : Int) : GoodB a0 a1 a2 a3 a4 a5 = true ↔ 3 ≤ a0 ∧ a0 ≤ 16 ∧ 4 ≤ a2 ∧ a2 ≤ 64 ∧ 2 ≤ a3 ∧ a3 ≤ 16 ∧ 32 ≤ a1 ∧ wrap64 (15 + wrap64 (5 * wrap64 (a0 - 2))) ≤ a1 ∧ a1 ≤ 512 ∧
    wrap64 (a0 - 2) ≤ a4 ∧ a4 ≤ wrap64 (a3 * wrap64 (a0 - 2)) ∧ a4 ≤ 256 ∧ 1 ≤ a5 ∧ a5 ≤ wrap64 (wrap64 (wrap64 (a2 - 3) * wrap64 (a3 - 1)) * wrap64 (a0 - 2)) := by
  simp only [GoodB, Bool.and_eq_true, inB_iff, le_mn, mx_le]
  constructor
  · rintro ⟨⟨⟨⟨⟨⟨h1, h2⟩, h3, h4⟩, h5, h6⟩, ⟨h7, h8⟩, h9⟩, h10, h11, h12⟩, h13, h14⟩
    exact ⟨h1, h2, h3, h4, h5, h6, h8, h7, h9, h10, h11, h12, h13, h14⟩
  · rintro ⟨h1, h2, h3, h4, h5, h6, h8, h7, h9, h10, h11, h12, h13, h14⟩
    exact ⟨⟨⟨⟨⟨⟨h1, h2⟩, h3, h4⟩, h5, h6⟩, ⟨h7, h8⟩, h9⟩, h10, h11, h12⟩, h13, h14⟩

theorem good_may (x : Sh) : GoodB x.m x.b x.s x.t x.n x.l = mayB x := by
  unfold GoodB mayB
  rcases h1 : inB x.m 3 16 with _ | _
  · rfl
  rcases h2 : inB x.s 4 64 with _ | _
  · rfl
  rcases h3 : inB x.t 2 16 with _ | _
  · rfl
  have mid : Mid x := ⟨(inB_iff _ _ _).1 h1, (inB_iff _ _ _).1 h2, (inB_iff _ _ _).1 h3⟩
  have m1 := mid.m
  have m2 := mid.s
  have m3 := mid.t
  have m4 := mid.tm
  have m5 := mid.st
  have m6 := mid.most
  have w1 : Hid (wrap64 (x.m - 2) = x.m - 2) := Lib.hid (IntWalk.wrap64_in _ (by omega))
  have w2 : Hid (wrap64 (5 * (x.m - 2)) = 5 * (x.m - 2)) := Lib.hid (IntWalk.wrap64_in _ (by omega))
  have w3 : Hid (wrap64 (15 + 5 * (x.m - 2)) = 15 + 5 * (x.m - 2)) := Lib.hid (IntWalk.wrap64_in _ (by omega))
  have w4 : Hid (wrap64 (x.t * (x.m - 2)) = x.t * (x.m - 2)) := Lib.hid (IntWalk.wrap64_in _ (by omega))
  have w5 : Hid (wrap64 (x.s - 3) = x.s - 3) := Lib.hid (IntWalk.wrap64_in _ (by omega))
  have w6 : Hid (wrap64 (x.t - 1) = x.t - 1) := Lib.hid (IntWalk.wrap64_in _ (by omega))
  have w7 : Hid (wrap64 ((x.s - 3) * (x.t - 1)) = (x.s - 3) * (x.t - 1)) := Lib.hid (IntWalk.wrap64_in _ (by omega))
  have w8 : Hid (wrap64 ((x.s - 3) * (x.t - 1) * (x.m - 2)) = (x.s - 3) * (x.t - 1) * (x.m - 2)) := Lib.hid (IntWalk.wrap64_in _ (by omega))
  rw [w1.out, w2.out, w3.out, w4.out, w5.out, w6.out, w7.out, w8.out, mxI_eq, mnI_eq]
end Q
/-- What Check tells. -/
def chk (x : Sh) : Int := if mayB x = true then 0 else 1
theorem check_ok (x : Sh) (w : World) : Calls Try.prog 8 #[.agg #[.int .i64 x.m, .int .i64 x.b, .int .i64 x.s, .int .i64 x.t, .int .i64 x.n, .int .i64 x.l]] w fun e w' => e = .returned (.int .i64 (chk x)) ∧ Below w.heap.size w w' :=
  Q.geom_Shape_Check.calls 1 x.m x.b x.s x.t x.n x.l (chk x) w (by rw [Q.check_eq x.m x.b x.s x.t x.n x.l 0, Q.good_may]; rfl)
end Go.Proofs.Ytcpngnnnggpfpaa
