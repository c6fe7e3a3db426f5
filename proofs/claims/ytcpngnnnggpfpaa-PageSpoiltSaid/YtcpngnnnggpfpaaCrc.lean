/- The plain law of the sum: two ways of dividing polynomials bit by bit give the same rest; the rest is additive; one turned bit turns it. No condition. -/
namespace CrcMath

/-- The reflected polynomial. -/
def P : Nat := 3988292384
/-- One bit of the reflected way. -/
def bs (c : Nat) : Nat := if c % 2 = 1 then (c / 2) ^^^ P else c / 2

theorem xor_div2 (u v : Nat) : (u ^^^ v) / 2 = u / 2 ^^^ v / 2 := by
  have := Nat.shiftRight_xor_distrib (a := u) (b := v) (i := 1)
  simpa [Nat.shiftRight_eq_div_pow] using this

theorem xor_mod2 (u v : Nat) : (u ^^^ v) % 2 = (u % 2 + v % 2) % 2 := by
  have h : ∀ n : Nat, n % 2 = (n.testBit 0).toNat := by
    intro n
    rw [Nat.testBit_zero]
    rcases Nat.mod_two_eq_zero_or_one n with h | h <;> simp [h]
  rw [h, h u, h v, Nat.testBit_xor]
  cases u.testBit 0 <;> cases v.testBit 0 <;> rfl

theorem bs_xor (u v : Nat) : bs (u ^^^ v) = bs u ^^^ bs v := by
  unfold bs
  rw [xor_mod2, xor_div2]
  rcases Nat.mod_two_eq_zero_or_one u with hu | hu <;> rcases Nat.mod_two_eq_zero_or_one v with hv | hv <;> simp [hu, hv]
  · rw [Nat.xor_assoc]
  · rw [Nat.xor_assoc, Nat.xor_assoc, Nat.xor_comm P]
  · rw [show u / 2 ^^^ P ^^^ (v / 2 ^^^ P) = u / 2 ^^^ v / 2 ^^^ (P ^^^ P) by ac_rfl, Nat.xor_self, Nat.xor_zero]

theorem bs_two (y : Nat) : bs (2 * y) = y := by
  unfold bs
  rw [if_neg (by omega)]
  omega

theorem P_lt : P < 2 ^ 32 := by decide

theorem bs_lt {c : Nat} (h : c < 2 ^ 32) : bs c < 2 ^ 32 := by
  unfold bs
  split
  · exact Nat.xor_lt_two_pow (by omega) P_lt
  · omega

/-- The top bit of what comes out is the lowest bit of what went in. -/
theorem bs_top {c : Nat} (h : c < 2 ^ 32) : (bs c).testBit 31 = decide (c % 2 = 1) := by
  unfold bs
  have z : (c / 2).testBit 31 = false := Nat.testBit_lt_two_pow (by omega)
  by_cases e : c % 2 = 1
  · rw [if_pos e, Nat.testBit_xor, z, decide_eq_true e]
    decide
  · rw [if_neg e, z, decide_eq_false e]

theorem bs_inj {u v : Nat} (hu : u < 2 ^ 32) (hv : v < 2 ^ 32) (h : bs u = bs v) : u = v := by
  have t := bs_top hu
  rw [h, bs_top hv] at t
  have m : u % 2 = v % 2 := by
    rcases Nat.mod_two_eq_zero_or_one u with a | a <;> rcases Nat.mod_two_eq_zero_or_one v with b | b <;> simp [a, b] at t ⊢
  have d : u / 2 = v / 2 := by
    unfold bs at h
    rcases Nat.mod_two_eq_zero_or_one u with a | a
    · rw [if_neg (by omega), if_neg (by omega)] at h
      exact h
    · rw [if_pos a, if_pos (by omega)] at h
      have := congrArg (fun x => x ^^^ P) h
      simpa [Nat.xor_assoc] using this
  omega

/-- n bits. -/
def bits (n : Nat) (c : Nat) : Nat := Nat.rec c (fun _ x => bs x) n
theorem bits_zero (c : Nat) : bits 0 c = c := rfl
theorem bits_succ (n c : Nat) : bits (n + 1) c = bs (bits n c) := rfl
theorem bits_succ' (n c : Nat) : bits (n + 1) c = bits n (bs c) := by
  induction n with
  | zero => rfl
  | succ n ih => rw [bits_succ, ih, bits_succ]
theorem bits_xor (n u v : Nat) : bits n (u ^^^ v) = bits n u ^^^ bits n v := by
  induction n with
  | zero => rfl
  | succ n ih => rw [bits_succ, ih, bs_xor, bits_succ, bits_succ]
theorem bits_lt (n : Nat) {c : Nat} (h : c < 2 ^ 32) : bits n c < 2 ^ 32 := by
  induction n with
  | zero => exact h
  | succ n ih => exact bs_lt ih
theorem bits_inj (n : Nat) {u v : Nat} (hu : u < 2 ^ 32) (hv : v < 2 ^ 32) (h : bits n u = bits n v) : u = v := by
  induction n with
  | zero => exact h
  | succ n ih => exact ih (bs_inj (bits_lt n hu) (bits_lt n hv) h)

/-- The rest behind bytes. -/
def byteStep (c x : Nat) : Nat := bits 8 (c ^^^ x)
def crc (c : Nat) (l : List Nat) : Nat := l.foldl byteStep c
theorem crc_nil (c : Nat) : crc c [] = c := rfl
theorem crc_cons (c x : Nat) (r : List Nat) : crc c (x :: r) = crc (byteStep c x) r := rfl
theorem byteStep_lt {c x : Nat} (h : c < 2 ^ 32) (hx : x < 256) : byteStep c x < 2 ^ 32 := bits_lt 8 (Nat.xor_lt_two_pow h (by omega))
theorem byteStep_inj {u v x y : Nat} (hu : u < 2 ^ 32) (hv : v < 2 ^ 32) (hx : x < 256) (hy : y < 256) (h : byteStep u x = byteStep v y) : u ^^^ x = v ^^^ y :=
  bits_inj 8 (Nat.xor_lt_two_pow hu (by omega)) (Nat.xor_lt_two_pow hv (by omega)) h
theorem byteStep_xor3 (u v w x y z : Nat) : byteStep (u ^^^ v ^^^ w) (x ^^^ y ^^^ z) = byteStep u x ^^^ byteStep v y ^^^ byteStep w z := by
  unfold byteStep
  rw [show u ^^^ v ^^^ w ^^^ (x ^^^ y ^^^ z) = (u ^^^ x) ^^^ (v ^^^ y) ^^^ (w ^^^ z) by ac_rfl, bits_xor, bits_xor]

theorem crc_append (c : Nat) (a b : List Nat) : crc c (a ++ b) = crc (crc c a) b := List.foldl_append

theorem crc_lt {c : Nat} (h : c < 2 ^ 32) (l : List Nat) (hl : ∀ x ∈ l, x < 256) : crc c l < 2 ^ 32 := by
  induction l generalizing c with
  | nil => exact h
  | cons x r ih =>
    rw [crc_cons]
    exact ih (byteStep_lt h (hl x (by simp))) (fun y hy => hl y (by simp [hy]))

theorem crc_inj {u v : Nat} (hu : u < 2 ^ 32) (hv : v < 2 ^ 32) (l : List Nat) (hl : ∀ x ∈ l, x < 256) (h : crc u l = crc v l) : u = v := by
  induction l generalizing u v with
  | nil => exact h
  | cons x r ih =>
    have hx := hl x (by simp)
    rw [crc_cons, crc_cons] at h
    have h1 := ih (byteStep_lt hu hx) (byteStep_lt hv hx) (fun y hy => hl y (by simp [hy])) h
    have h2 := byteStep_inj hu hv hx hx h1
    have := congrArg (fun z => z ^^^ x) h2
    simpa [Nat.xor_assoc] using this

/-- Additive, three at a time. -/
theorem crc_xor3 (u v w : Nat) (a b c : List Nat) (hb : b.length = a.length) (hc : c.length = a.length) :
    crc (u ^^^ v ^^^ w) (List.zipWith (· ^^^ ·) (List.zipWith (· ^^^ ·) a b) c) = crc u a ^^^ crc v b ^^^ crc w c := by
  induction a generalizing u v w b c with
  | nil =>
    have : b = [] := List.eq_nil_of_length_eq_zero (by simpa using hb)
    have : c = [] := List.eq_nil_of_length_eq_zero (by simpa using hc)
    subst b c
    rfl
  | cons x a ih =>
    match b, c, hb, hc with
    | y :: b, z :: c, hb, hc =>
      rw [List.zipWith_cons_cons, List.zipWith_cons_cons, crc_cons, crc_cons, crc_cons, crc_cons, byteStep_xor3]
      exact ih _ _ _ _ _ (by simpa using hb) (by simpa using hc)

/-- One byte another one: another rest. -/
theorem crc_set_ne {c : Nat} (h : c < 2 ^ 32) (l : List Nat) (hl : ∀ x ∈ l, x < 256) (i : Nat) (hi : i < l.length) (y : Nat) (hy : y < 256) (hne : y ≠ l[i]) : crc c (l.set i y) ≠ crc c l := by
  induction l generalizing c i with
  | nil => simp at hi
  | cons x r ih =>
    have hx := hl x (by simp)
    have hr : ∀ z ∈ r, z < 256 := fun z hz => hl z (by simp [hz])
    cases i with
    | zero =>
      rw [List.set_cons_zero, crc_cons, crc_cons]
      intro e
      have h2 := byteStep_inj h h hy hx (crc_inj (byteStep_lt h hy) (byteStep_lt h hx) r hr e)
      have := congrArg (fun z => c ^^^ z) h2
      simp only [← Nat.xor_assoc, Nat.xor_self, Nat.zero_xor] at this
      exact hne this
    | succ i =>
      rw [List.set_cons_succ, crc_cons, crc_cons]
      exact ih (byteStep_lt h hx) hr i (by simpa using hi) (by simpa using hne)

-- the document's way
/-- One bit of the plain way. -/
def rs (r b : Nat) : Nat := if r / 2147483648 = b then r * 2 % 4294967296 else (r * 2 % 4294967296) ^^^ 79764919
/-- Turned round: n bits. -/
def revN (n r : Nat) : Nat := Nat.rec 0 (fun i x => x * 2 + r / 2 ^ i % 2) n
theorem revN_succ (n r : Nat) : revN (n + 1) r = revN n r * 2 + r / 2 ^ n % 2 := rfl
theorem revN_lt (n r : Nat) : revN n r < 2 ^ n := by
  induction n with
  | zero => exact Nat.one_pos
  | succ n ih => rw [revN_succ, Nat.pow_succ]; have := Nat.mod_lt (r / 2 ^ n) (show 0 < 2 by decide); omega
theorem div_mod_testBit (r n : Nat) : r / 2 ^ n % 2 = (r.testBit n).toNat := by
  rw [Nat.testBit_eq_decide_div_mod_eq]
  rcases Nat.mod_two_eq_zero_or_one (r / 2 ^ n) with h | h <;> simp [h]
theorem revN_testBit (n r i : Nat) (h : i < n) : (revN n r).testBit i = r.testBit (n - 1 - i) := by
  induction n generalizing i with
  | zero => omega
  | succ n ih =>
    rw [revN_succ, div_mod_testBit]
    cases i with
    | zero =>
      rw [Nat.testBit_zero]
      simp only [Nat.add_sub_cancel, Nat.sub_zero]
      cases r.testBit n <;> simp
    | succ i =>
      rw [Nat.testBit_succ]
      have : (revN n r * 2 + (r.testBit n).toNat) / 2 = revN n r := by cases r.testBit n <;> simp <;> omega
      rw [this, ih i (by omega)]
      congr 1
      omega
theorem eq_of_low {a b : Nat} (ha : a < 2 ^ 32) (hb : b < 2 ^ 32) (h : ∀ i, i < 32 → a.testBit i = b.testBit i) : a = b := by
  apply Nat.eq_of_testBit_eq
  intro i
  by_cases hi : i < 32
  · exact h i hi
  · have p : 2 ^ 32 ≤ 2 ^ i := Nat.pow_le_pow_right (by decide) (by omega)
    rw [Nat.testBit_lt_two_pow (by omega), Nat.testBit_lt_two_pow (by omega)]

theorem rs_lt (r b : Nat) : rs r b < 2 ^ 32 := by
  unfold rs
  split
  · omega
  · exact Nat.xor_lt_two_pow (by omega) (by decide)

theorem shl_testBit (r i : Nat) : (r * 2 % 4294967296).testBit i = (decide (i < 32) && decide (1 ≤ i) && r.testBit (i - 1)) := by
  rw [show (4294967296 : Nat) = 2 ^ 32 from rfl, Nat.testBit_mod_two_pow]
  cases i with
  | zero => simp [Nat.testBit_zero]
  | succ i =>
    rw [Nat.testBit_succ, Nat.mul_div_cancel _ (by decide)]
    simp

theorem top_bit {r : Nat} (h : r < 2 ^ 32) : r / 2147483648 = (r.testBit 31).toNat := by
  have := div_mod_testBit r 31
  rw [show (2 : Nat) ^ 31 = 2147483648 from rfl] at this
  omega

/-- The two ways go together. -/
theorem rev_rs {r b : Nat} (h : r < 2 ^ 32) (hb : b < 2) : revN 32 (rs r b) = bs (revN 32 r ^^^ b) := by
  have l0 := revN_lt 32 r
  have lx : revN 32 r ^^^ b < 2 ^ 32 := Nat.xor_lt_two_pow l0 (by omega)
  have low : (revN 32 r ^^^ b) % 2 = if r / 2147483648 = b then 0 else 1 := by
    rw [xor_mod2, top_bit h]
    have z : revN 32 r % 2 = (r.testBit 31).toNat := by
      have := revN_testBit 32 r 0 (by decide)
      rw [Nat.testBit_zero] at this
      rw [← this]
      rcases Nat.mod_two_eq_zero_or_one (revN 32 r) with e | e <;> simp [e]
    rw [z]
    cases r.testBit 31 <;> simp <;> (rcases (show b = 0 ∨ b = 1 by omega) with rfl | rfl <;> simp)
  have half : (revN 32 r ^^^ b) / 2 = revN 32 (r * 2 % 4294967296) := by
    rw [xor_div2, show b / 2 = 0 by omega, Nat.xor_zero]
    apply eq_of_low (by omega) (revN_lt _ _)
    intro i hi
    rw [revN_testBit _ _ _ hi, shl_testBit, ← Nat.testBit_succ]
    by_cases e : i = 31
    · subst e
      rw [Nat.testBit_lt_two_pow l0]
      simp
    · rw [revN_testBit _ _ _ (by omega), decide_eq_true (by omega), decide_eq_true (by omega), Bool.true_and, Bool.true_and]
      congr 1
  unfold bs rs
  rw [low, half]
  by_cases e : r / 2147483648 = b
  · rw [if_pos e, if_pos e, if_neg (by decide)]
  · rw [if_neg e, if_neg e, if_pos rfl]
    apply eq_of_low (revN_lt _ _) (Nat.xor_lt_two_pow (revN_lt _ _) P_lt)
    intro i hi
    rw [revN_testBit _ _ _ hi, Nat.testBit_xor, Nat.testBit_xor, revN_testBit _ _ _ hi]
    congr 1
    have : ∀ j : Fin 32, Nat.testBit 79764919 (32 - 1 - j.val) = P.testBit j.val := by decide
    exact this ⟨i, hi⟩

/-- The bits of a byte, the lowest first. -/
def refByte (r x : Nat) : Nat → Nat
  | 0 => r
  | n + 1 => rs (refByte r x n) (x / 2 ^ n % 2)

theorem refByte_lt {r : Nat} (h : r < 2 ^ 32) (x n : Nat) : refByte r x n < 2 ^ 32 := by
  cases n with
  | zero => exact h
  | succ n => exact rs_lt _ _

theorem refByte_rev {r : Nat} (h : r < 2 ^ 32) (x n : Nat) : revN 32 (refByte r x n) ^^^ x / 2 ^ n = bits n (revN 32 r ^^^ x) := by
  induction n with
  | zero => simp [refByte, bits_zero]
  | succ n ih =>
    rw [bits_succ, ← ih, refByte, rev_rs (refByte_lt h x n) (Nat.mod_lt _ (by decide))]
    have e : x / 2 ^ n = (x / 2 ^ n % 2) ^^^ (2 * (x / 2 ^ (n + 1))) := by
      have p : 2 * (x / 2 ^ (n + 1)) = x / 2 ^ n / 2 * 2 := by rw [Nat.pow_succ, ← Nat.div_div_eq_div_mul]; omega
      rw [p]
      generalize x / 2 ^ n = y
      apply Nat.eq_of_testBit_eq
      intro i
      rw [Nat.testBit_xor]
      cases i with
      | zero => simp [Nat.testBit_zero]
      | succ i =>
        rw [Nat.testBit_succ, Nat.testBit_succ, Nat.testBit_succ, Nat.mul_div_cancel _ (by decide), show y % 2 / 2 = 0 by omega, Nat.zero_testBit, Bool.false_xor]
    conv => rhs; rw [e, ← Nat.xor_assoc, bs_xor, bs_two]

/-- The document's rest behind bytes. -/
def ref (r : Nat) (l : List Nat) : Nat := l.foldl (fun r x => refByte r x 8) r
theorem ref_cons (r x : Nat) (t : List Nat) : ref r (x :: t) = ref (refByte r x 8) t := rfl
theorem refByte_rev8 {r x : Nat} (h : r < 2 ^ 32) (hx : x < 256) : revN 32 (refByte r x 8) = byteStep (revN 32 r) x := by
  unfold byteStep
  rw [← refByte_rev h x 8, show x / 2 ^ 8 = 0 by omega, Nat.xor_zero]

theorem ref_rev {r : Nat} (h : r < 2 ^ 32) (l : List Nat) (hl : ∀ x ∈ l, x < 256) : revN 32 (ref r l) = crc (revN 32 r) l := by
  induction l generalizing r with
  | nil => rfl
  | cons x t ih => rw [ref_cons, crc_cons, ih (refByte_lt h x 8) (fun y hy => hl y (by simp [hy])), refByte_rev8 h (hl x (by simp))]

theorem rev_ones : revN 32 4294967295 = 4294967295 := by decide

end CrcMath
