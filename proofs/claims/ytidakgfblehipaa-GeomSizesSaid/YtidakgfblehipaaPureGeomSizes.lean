/- The plain law of GeomSizes: how much of what there is, and where pages and stripes lie. No further condition. -/
import Derived.Test.YtidakgfblehipaaSx
namespace Go.Proofs.Ytidakgfblehipaa.GeomSizes
open Go.RowKit Go.Proofs.Ytidakgfblehipaa.S Go.Proofs.YtidakgfblehipaaW.PrintWords Go.Proofs.YtidakgfblehipaaW.PrintLast Go.Proofs.YtidakgfblehipaaW.PrintMore

theorem awake_tells (k : Nat) (hk : 1 ≤ k) : drystonelaw05_Awake.f k = some true := by
  have h : ∀ d, drystonelaw05_Awake.f (1 + d) = some true := by
    intro d
    induction d with
    | zero => decide +kernel
    | succ d ih => exact drystonelaw05_Awake.mono _ _ ih
  obtain ⟨d, rfl⟩ : ∃ d, k = 1 + d := ⟨k - 1, by omega⟩
  exact h d

theorem wrapS {x : Int} (h : -1000000 ≤ x) (g : x < 1000000) : wrap64 x = x := by unfold wrap64; omega

structure Num (m B sg st Lg : Int) : Prop where
  m0 : 3 ≤ m
  m1 : m ≤ 5
  b0 : 32 ≤ B
  b1 : B ≤ 40
  g0 : 4 ≤ sg
  g1 : sg ≤ 6
  t0 : 2 ≤ st
  t1 : st ≤ 3
  l0 : 1 ≤ Lg
  l1 : Lg ≤ 18

def img (sg Lg : Int) : Int := 12 + 9 * sg + 4 * Lg
def pgs (B sg Lg : Int) : Int := (img sg Lg + (B - 15) - 1) / (B - 15)

theorem img_eq {m B sg st Lg : Int} (h : Num m B sg st Lg) : wrap64 (wrap64 (12 + wrap64 (9 * sg)) + wrap64 (4 * Lg)) = img sg Lg := by
  obtain ⟨_, _, _, _, _, _, _, _, _, _⟩ := h
  rw [wrapS (x := 9 * sg) (by omega) (by omega), wrapS (x := 4 * Lg) (by omega) (by omega), wrapS (x := 12 + 9 * sg) (by omega) (by omega), wrapS (by omega) (by omega)]
  rfl
theorem img_le {m B sg st Lg : Int} (h : Num m B sg st Lg) : 52 ≤ img sg Lg ∧ img sg Lg ≤ 138 := by
  obtain ⟨_, _, _, _, _, _, _, _, _, _⟩ := h
  unfold img
  omega
theorem lt_pgs {m B sg st Lg : Int} (h : Num m B sg st Lg) (p : Int) : p < pgs B sg Lg ↔ p * (B - 15) < img sg Lg := by
  obtain ⟨_, _, _, _, _, _, _, _, _, _⟩ := h
  have e := Int.le_ediv_iff_mul_le (a := p + 1) (b := img sg Lg + (B - 15) - 1) (c := B - 15) (by omega)
  have e2 : (p + 1) * (B - 15) = p * (B - 15) + (B - 15) := by rw [Int.add_mul, Int.one_mul]
  unfold pgs
  rw [e2] at e
  omega
theorem pgs_le {m B sg st Lg : Int} (h : Num m B sg st Lg) : 1 ≤ pgs B sg Lg ∧ pgs B sg Lg ≤ 138 := by
  have h1 := lt_pgs h 0
  have h2 := img_le h
  have h3 := lt_pgs h 138
  obtain ⟨_, _, _, _, _, _, _, _, _, _⟩ := h
  have h4 : 0 * (B - 15) = 0 := Int.zero_mul _
  have h5 : ¬ 138 * (B - 15) < img sg Lg := by omega
  constructor
  · have := h1.2 (by omega); omega
  · rcases Int.lt_or_le 138 (pgs B sg Lg) with h6 | h6
    · exact absurd (h3.1 h6) h5
    · exact h6

theorem pages_eq {m B sg st Lg V : Int} (h : Num m B sg st Lg) : geom_Shape_Pages.f m B sg st V Lg = some (pgs B sg Lg) := by
  have h1 := img_le h
  have h2 := pgs_le h
  have h3 := img_eq h
  obtain ⟨_, _, _, _, _, _, _, _, _, _⟩ := h
  unfold geom_Shape_Pages.f geom_Shape_Image.f geom_Shape_Page.f
  rw [h3]
  clear h3
  simp only [Option.bind_some]
  rw [wrapS (x := B - 15) (by omega) (by omega), if_neg (by omega), wrapS (x := img sg Lg + (B - 15)) (by omega) (by omega), wrapS (x := img sg Lg + (B - 15) - 1) (by omega) (by omega), Int.tdiv_eq_ediv_of_nonneg (by omega)]
  have e : (img sg Lg + (B - 15) - 1) / (B - 15) = pgs B sg Lg := rfl
  rw [e, wrapS (by omega) (by omega)]

theorem st_eq {m B sg st Lg : Int} (h : Num m B sg st Lg) : wrap64 (sg * st) = sg * st ∧ 0 < sg * st := by
  obtain ⟨_, _, _, _, _, _, _, _, _, _⟩ := h
  have h1 : sg = 4 ∨ sg = 5 ∨ sg = 6 := by omega
  have h2 : st = 2 ∨ st = 3 := by omega
  rcases h1 with rfl | rfl | rfl <;> rcases h2 with rfl | rfl <;> exact ⟨wrapS (by decide) (by decide), by decide⟩

theorem loop {m B sg st Lg : Int} (V t i : Int) (h : Num m B sg st Lg) : ∀ (d k : Nat) (p : Int), pgs B sg Lg - p = d → 0 ≤ p → d + 1 ≤ k →
    drystonelaw05_GeomSizes.l0 k t i (wrap64 (m - 2)) (img sg Lg) p m B sg st V Lg = some true
  | 0, k, p, hd, hp, hk => by
    obtain ⟨k, rfl⟩ : ∃ j, k = j + 1 := ⟨k - 1, by omega⟩
    have h1 := img_le h
    have h2 := pgs_le h
    have hP : p = pgs B sg Lg := by omega
    have h3 := lt_pgs h p
    have hpe := pages_eq (V := V) h
    have hie := img_eq h
    have hst := st_eq h
    obtain ⟨_, _, hb0, hb1, _, _, _, _, _, _⟩ := h
    have hmul : p * (B - 15) ≤ 138 * 25 := Int.mul_le_mul (by omega) (by omega) (by omega) (by omega)
    have hmul0 : 0 ≤ p * (B - 15) := Int.mul_nonneg hp (by omega)
    simp only [drystonelaw05_GeomSizes.l0]
    rw [show wrap64 (p * wrap64 (B - 15)) = p * (B - 15) from by rw [wrapS (x := B - 15) (by omega) (by omega), wrapS (by omega) (by omega)]]
    rw [if_neg (by omega), if_neg (by rw [hst.1]; omega), if_neg (by omega)]
    subst hP
    simp only [geom_Shape_Slots.f, geom_Shape_Note.f, geom_Shape_Most.f, geom_Shape_All.f, geom_Shape_Image.f, geom_Shape_Page.f, geom_Shape_Sectors.f, geom_Shape_PageAt.f, geom_Shape_StripeAt.f, geom_Shape_Segment.f, hpe, hie, Option.bind_some, if_true]
    rw [show wrap64 (0 * pgs B sg Lg) = 0 from by rw [Int.zero_mul]; exact wrapS (by decide) (by decide), show wrap64 (1 * pgs B sg Lg) = pgs B sg Lg from by rw [Int.one_mul]; exact wrapS (by omega) (by omega), show wrap64 (1 + 0) = 1 from wrapS (by decide) (by decide)]
    simp only [if_true]
    rw [if_neg (by omega), Option.bind_some, if_neg (by omega)]
    simp
  | d + 1, k, p, hd, hp, hk => by
    obtain ⟨k, rfl⟩ : ∃ j, k = j + 1 := ⟨k - 1, by omega⟩
    have h1 := img_le h
    have h2 := pgs_le h
    have h3 := (lt_pgs h p).1 (by omega)
    have hb0 := h.b0
    have hb1 := h.b1
    have hmul0 : 0 ≤ p * (B - 15) := Int.mul_nonneg hp (by omega)
    simp only [drystonelaw05_GeomSizes.l0]
    rw [show wrap64 (p * wrap64 (B - 15)) = p * (B - 15) from by rw [wrapS (x := B - 15) (by omega) (by omega), wrapS (by omega) (by omega)], if_pos h3, wrapS (x := p + 1) (by omega) (by omega)]
    exact loop V t i h d k (p + 1) (by omega) (by omega) (by omega)

theorem pure_ (a0 a1 a2 a3 a4 a5 t i : Int) (h0 : 0 ≤ a0 ∧ a0 < 256) (h1 : 0 ≤ a1 ∧ a1 < 256) (h2 : 0 ≤ a2 ∧ a2 < 256) (h3 : 0 ≤ a3 ∧ a3 < 256) (h4 : 0 ≤ a4 ∧ a4 < 256) (h5 : 0 ≤ a5 ∧ a5 < 256) : drystonelaw05_GeomSizes.f 200 a0 a1 a2 a3 a4 a5 t i = some true := by
  have hx : ∃ X : Int, (1 + a2 % 3) * (1 + a3 % 2) * (1 + a0 % 3) = X ∧ 1 ≤ X ∧ X ≤ 18 := by
    refine ⟨_, rfl, ?_⟩
    have g0 : a0 % 3 = 0 ∨ a0 % 3 = 1 ∨ a0 % 3 = 2 := by omega
    have g2 : a2 % 3 = 0 ∨ a2 % 3 = 1 ∨ a2 % 3 = 2 := by omega
    have g3 : a3 % 2 = 0 ∨ a3 % 2 = 1 := by omega
    rcases g0 with e0 | e0 | e0 <;> rcases g2 with e2 | e2 | e2 <;> rcases g3 with e3 | e3 <;> rw [e0, e2, e3] <;> decide
  obtain ⟨X, hX, hX0, hX1⟩ := hx
  have hm := Int.emod_nonneg a5 (show X ≠ 0 by omega)
  have hm2 := Int.emod_lt_of_pos a5 (show 0 < X by omega)
  have hn : Num (3 + a0 % 3) (32 + a1 % 9) (4 + a2 % 3) (2 + a3 % 2) (1 + a5 % X) := ⟨by omega, by omega, by omega, by omega, by omega, by omega, by omega, by omega, by omega, by omega⟩
  have hp := pgs_le hn
  have hie := img_eq hn
  have hl := loop ((1 + a0 % 3) + a4 % ((1 + a3 % 2) * (1 + a0 % 3) + 1)) t i hn (pgs (32 + a1 % 9) (4 + a2 % 3) (1 + a5 % X)).toNat 200 0 (by omega) (by omega) (by omega)
  unfold drystonelaw05_GeomSizes.f drystonelaw05_Shape.f
  rw [awake_tells 200 (by decide), hX, if_pos (by omega)]
  simp only [Option.bind_some, if_true]
  rw [hie]
  exact hl

theorem u8 {a : Int} (h : (Lit.int .u8 a).wf = true) : 0 ≤ a ∧ a < 256 := by
  simp [Lit.wf, IntKind.min, IntKind.max, IntKind.signed, IntKind.bits] at h
  omega

theorem walk (a0 a1 a2 a3 a4 a5 b c : Int) (w : World) (w0 : (Lit.int .u8 a0).wf = true) (w1 : (Lit.int .u8 a1).wf = true) (w2 : (Lit.int .u8 a2).wf = true) (w3 : (Lit.int .u8 a3).wf = true) (w4 : (Lit.int .u8 a4).wf = true) (w5 : (Lit.int .u8 a5).wf = true) (_ : (Lit.int .u8 b).wf = true) (_ : (Lit.int .u8 c).wf = true) :
    Calls Try.prog 8 #[.agg #[.int .u8 a0, .int .u8 a1, .int .u8 a2, .int .u8 a3, .int .u8 a4, .int .u8 a5], .int .u8 b, .int .u8 c] w fun e w' => e = .returned (.bool true) ∧ Below w.heap.size w w' :=
  drystonelaw05_GeomSizes.calls 200 _ _ _ _ _ _ _ _ true w (pure_ a0 a1 a2 a3 a4 a5 b c (u8 w0) (u8 w1) (u8 w2) (u8 w3) (u8 w4) (u8 w5)) rfl

end Go.Proofs.Ytidakgfblehipaa.GeomSizes
