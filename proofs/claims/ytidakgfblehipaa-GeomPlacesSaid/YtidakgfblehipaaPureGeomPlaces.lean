/- The plain law of GeomPlaces: by trying all the numbers that the small shape can be made of. No further condition. -/
import Derived.Test.YtidakgfblehipaaGx7
namespace Go.Proofs.Ytidakgfblehipaa.GeomPlaces
open Go.RowKit Go.Proofs.Ytidakgfblehipaa.G Go.Proofs.YtidakgfblehipaaW.PrintWords Go.Proofs.YtidakgfblehipaaW.PrintLast Go.Proofs.YtidakgfblehipaaW.PrintMore

theorem awake_true : drystonelaw05_Awake.f 30 = some true := by decide +kernel

theorem shape_is (a0 a1 a2 a3 a4 a5 : Int) (h0 : 0 ≤ a0 ∧ a0 < 256) (h1 : 0 ≤ a1 ∧ a1 < 256) (h2 : 0 ≤ a2 ∧ a2 < 256) (h3 : 0 ≤ a3 ∧ a3 < 256) (h4 : 0 ≤ a4 ∧ a4 < 256) (h5 : 0 ≤ a5 ∧ a5 < 256) :
    ∃ B V L, drystonelaw05_Shape.f a0 a1 a2 a3 a4 a5 = some (3 + a0 % 3, B, 4 + a2 % 3, 2 + a3 % 2, V, L) := by
  unfold drystonelaw05_Shape.f
  rw [if_pos (by omega)]
  exact ⟨_, _, _, rfl⟩

theorem free2 (m b s t n l : Int) : ∀ k x6 x85 x86, drystonelaw05_GeomPlaces.l2 k x6 x85 x86 m b s t n l = drystonelaw05_GeomPlaces.l2 k x6 x85 x86 m 0 s t 0 0
  | 0, _, _, _ => rfl
  | k + 1, x6, x85, x86 => by
    simp only [drystonelaw05_GeomPlaces.l2, geom_Shape_Place.f, geom_Shape_Spot.f, geom_Shape_Slots.f, free2 m b s t n l k]
theorem free1 (m b s t n l : Int) : ∀ k x6 x74 x75 x76, drystonelaw05_GeomPlaces.l1 k x6 x74 x75 x76 m b s t n l = drystonelaw05_GeomPlaces.l1 k x6 x74 x75 x76 m 0 s t 0 0
  | 0, _, _, _, _ => rfl
  | k + 1, x6, x74, x75, x76 => by
    simp only [drystonelaw05_GeomPlaces.l1, free1 m b s t n l k, free2 m b s t n l k]
theorem free0 (m b s t n l : Int) : ∀ k x6 x7 x50 x51, drystonelaw05_GeomPlaces.l0 k x6 x7 x50 x51 m b s t n l = drystonelaw05_GeomPlaces.l0 k x6 x7 x50 x51 m 0 s t 0 0
  | 0, _, _, _, _ => rfl
  | k + 1, x6, x7, x50, x51 => by
    simp only [drystonelaw05_GeomPlaces.l0, geom_Shape_Member.f, free0 m b s t n l k, free1 m b s t n l k]

def small (m s t n : Int) : Bool := drystonelaw05_GeomPlaces.l0 30 n ((List.replicate m.toNat (0 : Int)).set (n % m).toNat 1) (m - 1) 0 m 0 s t 0 0 == some true

theorem tried : (List.range 18).all (fun n => [3, 4, 5].all fun m => [4, 5, 6].all fun s => [2, 3].all fun t => small m s t n) = true := by decide +kernel

theorem small_true (m s t n : Int) (h : 0 ≤ n ∧ n < 18) (hm : m = 3 ∨ m = 4 ∨ m = 5) (hs : s = 4 ∨ s = 5 ∨ s = 6) (ht : t = 2 ∨ t = 3) : small m s t n = true := by
  have g := tried
  rw [List.all_eq_true] at g
  have g1 := g n.toNat (by rw [List.mem_range]; omega)
  rw [show ((n.toNat : Nat) : Int) = n by omega] at g1
  simp only [List.all_eq_true] at g1
  exact g1 m (by rcases hm with rfl | rfl | rfl <;> simp) s (by rcases hs with rfl | rfl | rfl <;> simp) t (by rcases ht with rfl | rfl <;> simp)

theorem body (m s t B V L q : Int) (hm : m = 3 ∨ m = 4 ∨ m = 5) (hs : s = 4 ∨ s = 5 ∨ s = 6) (ht : t = 2 ∨ t = 3) :
    drystonelaw05_GeomPlaces.l0 30 (q % (s * t)) ((List.replicate m.toNat (0 : Int)).set (q % (s * t) % m).toNat 1) (m - 1) 0 m B s t V L = some true := by
  rw [free0]
  have hb : 0 ≤ q % (s * t) ∧ q % (s * t) < 18 := by
    rcases hs with rfl | rfl | rfl <;> rcases ht with rfl | rfl <;> omega
  have := small_true m s t (q % (s * t)) hb hm hs ht
  unfold small at this
  exact of_decide_eq_true (by simpa using this)

theorem pure_ (a0 a1 a2 a3 a4 a5 q : Int) (h0 : 0 ≤ a0 ∧ a0 < 256) (h1 : 0 ≤ a1 ∧ a1 < 256) (h2 : 0 ≤ a2 ∧ a2 < 256) (h3 : 0 ≤ a3 ∧ a3 < 256) (h4 : 0 ≤ a4 ∧ a4 < 256) (h5 : 0 ≤ a5 ∧ a5 < 256) (hq : 0 ≤ q ∧ q < 256) : drystonelaw05_GeomPlaces.f 30 a0 a1 a2 a3 a4 a5 q = some true := by
  obtain ⟨B, V, L, e⟩ := shape_is a0 a1 a2 a3 a4 a5 h0 h1 h2 h3 h4 h5
  unfold drystonelaw05_GeomPlaces.f
  rw [awake_true, e]
  have hm : 3 + a0 % 3 = 3 ∨ 3 + a0 % 3 = 4 ∨ 3 + a0 % 3 = 5 := by omega
  have hs : 4 + a2 % 3 = 4 ∨ 4 + a2 % 3 = 5 ∨ 4 + a2 % 3 = 6 := by omega
  have ht : 2 + a3 % 2 = 2 ∨ 2 + a3 % 2 = 3 := by omega
  generalize 3 + a0 % 3 = m at *
  generalize 4 + a2 % 3 = s at *
  generalize 2 + a3 % 2 = t at *
  have hb := body m s t B V L q hm hs ht
  have e1 : wrap64 q = q := by unfold wrap64; omega
  have e2 : wrap64 (s * t) = s * t := by clear hb e; rcases hs with rfl | rfl | rfl <;> rcases ht with rfl | rfl <;> (unfold wrap64; decide)
  have e3 : 0 < s * t := by clear hb e; rcases hs with rfl | rfl | rfl <;> rcases ht with rfl | rfl <;> decide
  have e4 : Int.tmod q (s * t) = q % (s * t) := Int.tmod_eq_emod_of_nonneg hq.1
  have e5 : 0 ≤ q % (s * t) := Int.emod_nonneg _ (by omega)
  have e6 : Int.tmod (q % (s * t)) m = q % (s * t) % m := Int.tmod_eq_emod_of_nonneg e5
  have e7 : 0 ≤ q % (s * t) % m := Int.emod_nonneg _ (by omega)
  have e8 : q % (s * t) % m < m := Int.emod_lt_of_pos _ (by omega)
  have e9 : wrap64 (m - 1) = m - 1 := by unfold wrap64; omega
  simp only [Option.bind_some, e1, e2, e4, e6, geom_Shape_Parity.f, List.length_replicate, e9]
  rw [if_pos trivial, if_neg (by omega), if_pos (by omega), if_pos (by omega), if_neg (by omega)]
  simp only [Option.bind_some]
  rw [if_neg (by omega), if_pos trivial, if_pos e7, if_pos (by omega)]
  have e10 : rd (List.replicate m.toNat 0) (q % (s * t) % m) = 0 := by
    unfold rd
    rw [List.getD_eq_getElem?_getD, List.getElem?_replicate]
    split <;> rfl
  rw [e10, show wrap64 (0 + 1) = 1 by unfold wrap64; decide]
  exact hb

theorem u8 {a : Int} (h : (Lit.int .u8 a).wf = true) : 0 ≤ a ∧ a < 256 := by
  have := h
  simp [Lit.wf, IntKind.min, IntKind.max, IntKind.signed, IntKind.bits] at this
  omega

theorem walk (a0 a1 a2 a3 a4 a5 b : Int) (w : World) (w0 : (Lit.int .u8 a0).wf = true) (w1 : (Lit.int .u8 a1).wf = true) (w2 : (Lit.int .u8 a2).wf = true) (w3 : (Lit.int .u8 a3).wf = true) (w4 : (Lit.int .u8 a4).wf = true) (w5 : (Lit.int .u8 a5).wf = true) (wb : (Lit.int .u8 b).wf = true) :
    Calls Try.prog 6 #[.agg #[.int .u8 a0, .int .u8 a1, .int .u8 a2, .int .u8 a3, .int .u8 a4, .int .u8 a5], .int .u8 b] w fun e w' => e = .returned (.bool true) ∧ Below w.heap.size w w' :=
  drystonelaw05_GeomPlaces.calls 30 _ _ _ _ _ _ _ true w (pure_ a0 a1 a2 a3 a4 a5 b (u8 w0) (u8 w1) (u8 w2) (u8 w3) (u8 w4) (u8 w5) (u8 wb))

end Go.Proofs.Ytidakgfblehipaa.GeomPlaces
