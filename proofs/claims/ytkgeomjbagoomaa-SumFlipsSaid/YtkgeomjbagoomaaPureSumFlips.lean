/- The plain law: sealed bytes of which one bit is turned are never opened. No further condition. -/
import Derived.Test.YtkgeomjbagoomaaSealed
namespace Go.Proofs.Ytkgeomjbagoomaa.Pure
open Go.RowKit Go.Proofs.Ytkgeomjbagoomaa.Q Go.Proofs.YtkgeomjbagoomaaW.PrintWords Go.Proofs.YtkgeomjbagoomaaW.PrintLast Go.Proofs.YtkgeomjbagoomaaW.PrintMore CrcMath

theorem shl_pow {j : Int} (h0 : 0 ≤ j) (h : j < 8) : shl .u8 1 j = ((2 ^ j.toNat : Nat) : Int) ∧ 0 < 2 ^ j.toNat ∧ 2 ^ j.toNat < 256 := by
  rcases (show j = 0 ∨ j = 1 ∨ j = 2 ∨ j = 3 ∨ j = 4 ∨ j = 5 ∨ j = 6 ∨ j = 7 by omega) with rfl | rfl | rfl | rfl | rfl | rfl | rfl | rfl <;> decide

theorem flip_byte {x j : Int} (hx : 0 ≤ x ∧ x < 256) (h0 : 0 ≤ j) (h : j < 8) : ∃ y : Int, Go.bits .xor .u8 x (shl .u8 1 j) = y ∧ (0 ≤ y ∧ y < 256) ∧ y ≠ x := by
  obtain ⟨e, p, q⟩ := shl_pow h0 h
  obtain ⟨a, rfl⟩ := Int.eq_ofNat_of_zero_le hx.1
  rw [e, u8_xor_nat _ _ (by omega) q]
  have hlt : a ^^^ 2 ^ j.toNat < 2 ^ 8 := Nat.xor_lt_two_pow (by omega) (by omega)
  refine ⟨_, rfl, ⟨by omega, by omega⟩, fun he => ?_⟩
  have he2 : a ^^^ 2 ^ j.toNat = a := by omega
  have := congrArg (fun z => a ^^^ z) he2
  simp only [← Nat.xor_assoc, Nat.xor_self, Nat.zero_xor] at this
  omega

theorem sumN_set {l : List Int} (hb : Bytes l) (i : Nat) (hi : i < l.length) (y : Int) (hy : 0 ≤ y ∧ y < 256) (hne : y ≠ l[i]) : sumN (l.set i y) ≠ sumN l := by
  intro h
  unfold sumN at h
  have h2 := congrArg (fun z => 4294967295 ^^^ z) h
  simp only [← Nat.xor_assoc, Nat.xor_self, Nat.zero_xor] at h2
  have e : nats (l.set i y) = (nats l).set i y.toNat := by unfold nats; rw [List.map_set]
  rw [e] at h2
  have hli := hb _ (List.getElem_mem hi)
  exact crc_set_ne (by decide) (nats l) (nats_lt hb) i (by simpa [nats] using hi) y.toNat (by omega) (by simp only [nats, List.getElem_map]; omega) h2

theorem fin_ (l : List Int) (K i : Nat) (y : Int) (hb : Bytes l) (c : l.length ≤ 600) (hK : 20 * l.length + 200 = K) (hib : i < l.length + 4) (hy : 0 ≤ y ∧ y < 256) (hne0 : ∀ h : i < (l ++ le4 (sumN l)).length, y ≠ (l ++ le4 (sumN l))[i]) :
    sum_Open.f K ((l ++ le4 (sumN l)).set i y) = some ([], 5) := by
  have hs := sumN_lt hb
  by_cases hil : i < l.length
  · rw [List.set_append_left _ _ hil]
    have hne2 : y ≠ l[i] := by have h := hne0 (by rw [List.length_append]; omega); rw [List.getElem_append_left hil] at h; exact h
    have hb2 : Bytes (l.set i y) := by
      intro x hx
      rcases List.mem_or_eq_of_mem_set hx with h | h
      · exact hb x h
      · rw [h]; exact hy
    rw [open_seal _ _ hb2 (by omega) (by omega) (by rw [List.length_set]; omega) _ (by rw [List.length_set]; omega), if_neg]
    have := sumN_set hb i hil y hy hne2
    omega
  · rw [List.set_append_right _ _ (by omega)]
    obtain ⟨p, hp⟩ : ∃ p, i = l.length + p := ⟨i - l.length, by omega⟩
    subst hp
    have hp4 : p < 4 := by omega
    rw [Nat.add_sub_cancel_left]
    have hne : ∀ h : p < (le4 (sumN l)).length, y ≠ (le4 (sumN l))[p] := by
      intro h
      have g := hne0 (by rw [List.length_append]; exact Nat.add_lt_add_left h _)
      rw [List.getElem_append_right (by omega)] at g
      simp only [Nat.add_sub_cancel_left] at g
      exact g
    clear hne0
    obtain ⟨n, hn⟩ : ∃ n : Int, (sumN l : Int) = n := ⟨_, rfl⟩
    simp only [hn] at hne ⊢
    have hne := hne hp4
    have hbn := le4_bytes n
    rcases (show p = 0 ∨ p = 1 ∨ p = 2 ∨ p = 3 by omega) with rfl | rfl | rfl | rfl
    · have hne : y ≠ n % 256 := hne
      show sum_Open.f _ (l ++ [y, n / 256 % 256, n / 65536 % 256, n / 16777216 % 256]) = _
      rw [open_tells l _ _ _ _ hb (by intro x hx; simp only [List.mem_cons, List.not_mem_nil, or_false] at hx; rcases hx with rfl | rfl | rfl | rfl <;> omega) (by omega) _ (by omega), if_neg (by omega)]
    · have hne : y ≠ n / 256 % 256 := hne
      show sum_Open.f _ (l ++ [n % 256, y, n / 65536 % 256, n / 16777216 % 256]) = _
      rw [open_tells l _ _ _ _ hb (by intro x hx; simp only [List.mem_cons, List.not_mem_nil, or_false] at hx; rcases hx with rfl | rfl | rfl | rfl <;> omega) (by omega) _ (by omega), if_neg (by omega)]
    · have hne : y ≠ n / 65536 % 256 := hne
      show sum_Open.f _ (l ++ [n % 256, n / 256 % 256, y, n / 16777216 % 256]) = _
      rw [open_tells l _ _ _ _ hb (by intro x hx; simp only [List.mem_cons, List.not_mem_nil, or_false] at hx; rcases hx with rfl | rfl | rfl | rfl <;> omega) (by omega) _ (by omega), if_neg (by omega)]
    · have hne : y ≠ n / 16777216 % 256 := hne
      show sum_Open.f _ (l ++ [n % 256, n / 256 % 256, n / 65536 % 256, y]) = _
      rw [open_tells l _ _ _ _ hb (by intro x hx; simp only [List.mem_cons, List.not_mem_nil, or_false] at hx; rcases hx with rfl | rfl | rfl | rfl <;> omega) (by omega) _ (by omega), if_neg (by omega)]

theorem SumFlips : drystonelaw01_SumFlips.Pure := by
  intro l a hmx hl hw ha
  clear hmx hl
  have hb := Bytes.wf hw
  have ha2 : 0 ≤ a ∧ a < 65536 := by
    simp [Lit.wf, IntKind.min, IntKind.max, IntKind.signed, IntKind.bits] at ha
    omega
  refine ⟨20 * l.length + 200, ?_⟩
  generalize hK : 20 * l.length + 200 = K
  unfold drystonelaw01_SumFlips.f
  rw [awake_tells _ (by omega)]
  simp only [Option.bind_some]
  rw [if_pos trivial]
  by_cases c : (l.length : Int) > 600
  · rw [if_pos c]
  · rw [if_neg c, seal_tells l hb (by omega) _ (by omega)]
    have h4 : (l ++ le4 (sumN l)).length = l.length + 4 := by rw [List.length_append]; rfl
    have hs := sumN_lt hb
    rw [Option.bind_some]
    rw [h4, wrapS (x := (l.length : Int) + 4) (by omega) (by omega), if_pos (by omega)]
    rw [show wrap64 (8 * ((l.length + 4 : Nat) : Int)) = 8 * ((l.length + 4 : Nat) : Int) from wrapS (by omega) (by omega), show wrap64 a = a from wrapS (by omega) (by omega), if_neg (by omega), Int.tmod_eq_emod_of_nonneg ha2.1]
    have m0 := Int.emod_nonneg a (show 8 * ((l.length + 4 : Nat) : Int) ≠ 0 by omega)
    have m1 := Int.emod_lt_of_pos a (show 0 < 8 * ((l.length + 4 : Nat) : Int) by omega)
    generalize a % (8 * ((l.length + 4 : Nat) : Int)) = q at m0 m1 ⊢
    rw [Int.tdiv_eq_ediv_of_nonneg m0, Int.tmod_eq_emod_of_nonneg m0, wrapS (x := q / 8) (by omega) (by omega)]
    obtain ⟨i, hi⟩ := Int.eq_ofNat_of_zero_le (show 0 ≤ q / 8 by omega)
    rw [hi, if_pos (by omega), if_pos (by omega), if_pos (by omega), Int.toNat_natCast]
    have hib : i < (l ++ le4 (sumN l)).length := by omega
    have hbs : Bytes (l ++ le4 (sumN l)) := hb.app (le4_bytes _)
    have hrd : rd (l ++ le4 (sumN l)) (i : Int) = (l ++ le4 (sumN l))[i] := by unfold rd; simp [List.getD_eq_getElem?_getD, List.getElem?_eq_getElem hib]
    obtain ⟨y, ey, hy, hne⟩ := flip_byte (rd_byte hbs i hib) (show 0 ≤ q % 8 by omega) (show q % 8 < 8 by omega)
    rw [ey]
    rw [hrd] at hne
    have fin := fin_ l K i y hb (by omega) hK (by omega) hy (fun _ => hne)
    rw [fin]
    rfl

end Go.Proofs.Ytkgeomjbagoomaa.Pure
