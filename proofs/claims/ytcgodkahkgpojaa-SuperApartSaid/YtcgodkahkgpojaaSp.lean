/- What is read of a label's own sector; the walks of Awake and of SuperEncodes. No further condition. -/
import Derived.Test.YtcgodkahkgpojaaSr
namespace Go.Proofs.Ytcgodkahkgpojaa
open Go.RowKit
attribute [local go_sem ↓] Go.wp_at_zero Go.wp_at_succ

/-- A label that can be told. -/
structure LbOk (x : Sh) (k : Int) : Prop where
  may : mayB x = true
  k : 0 ≤ k ∧ k < 256
  m : 3 ≤ x.m ∧ x.m ≤ 16
  b : 32 ≤ x.b ∧ x.b ≤ 512
  s : 4 ≤ x.s ∧ x.s ≤ 64
  t : 2 ≤ x.t ∧ x.t ≤ 16
  n : 1 ≤ x.n ∧ x.n ≤ 256
  l : 1 ≤ x.l ∧ x.l ≤ 12810
def sect (x : Sh) (k : Int) : List Int := pad (sealL (supL x k)) x.b.toNat
section
variable {x : Sh} {k : Int}
theorem shOf_ok {a b c d e f k : Int} (h : Ok8 a b c d e f) (hk : 0 ≤ k ∧ k < 256) : LbOk (shOf a b c d e f) k := by
  obtain ⟨h1, h2, h3, h4⟩ := shOf_m h
  obtain ⟨h5, h6⟩ := shOf_nl h
  exact ⟨shOf_may h, hk, by omega, by omega, by omega, by omega, by omega, by omega⟩
theorem LbOk.sm (h : LbOk x k) : Sm x := by
  obtain ⟨-, -, h1, h2, h3, h4, h5, h6⟩ := h
  exact ⟨by omega, by omega, by omega, by omega, by omega, by omega⟩
theorem sect_len (h : LbOk x k) : (sect x k).length = x.b.toNat := by
  have := h.b
  have h2 : (sealL (supL x k)).length = 22 := by rw [sealL_len, supL_len]
  unfold sect pad
  rw [List.length_append, List.length_replicate, h2]
  omega
theorem sect_oct (x : Sh) (k : Int) : Oct (sect x k) := by
  unfold sect pad
  exact (sealL_oct (supL_oct x k)).app fun y hy => by
    rw [List.eq_of_mem_replicate hy]
    decide
theorem sect_eq (x : Sh) (k : Int) : ∃ n, sect x k = sealL (supL x k) ++ List.replicate n 0 := ⟨_, rfl⟩
theorem sect_sealed (x : Sh) (k : Int) : Sealed22 (sect x k) := by
  obtain ⟨n, e⟩ := sect_eq x k
  unfold Sealed22
  rw [e, take_seal (by rw [supL_len]), take_seal0 (by rw [supL_len])]
theorem sect_zeros (x : Sh) (k : Int) : zeros ((sect x k).drop 22) = true := by
  obtain ⟨n, e⟩ := sect_eq x k
  rw [e, drop_seal (by rw [supL_len])]
  simp [zeros]
theorem drop_le (n v : Nat) (r : List Int) : (le n v ++ r).drop n = r := by
  rw [List.drop_append_of_le_length (by rw [le_len]; exact Nat.le_refl _), List.drop_of_length_le (by rw [le_len]; exact Nat.le_refl _), List.nil_append]
theorem drop_step {X r : List Int} {i n v j : Nat} (h : X.drop i = le n v ++ r) (hj : j = i + n) : X.drop j = r := by
  subst hj
  rw [← List.drop_drop, h, drop_le]
theorem sect_nf (h : LbOk x k) : nf (sect x k) 0 4 = 827540562 ∧ nf (sect x k) 4 1 = k.toNat ∧ nf (sect x k) 5 1 = x.m.toNat ∧ nf (sect x k) 6 2 = x.b.toNat ∧ nf (sect x k) 8 2 = x.s.toNat ∧ nf (sect x k) 10 2 = x.t.toNat ∧ nf (sect x k) 12 2 = x.n.toNat ∧ nf (sect x k) 14 4 = x.l.toNat := by
  obtain ⟨-, hk, h1, h2, h3, h4, h5, h6⟩ := h
  obtain ⟨n, e⟩ := sect_eq x k
  obtain ⟨r, hr⟩ : ∃ r, sect x k = le 4 827540562 ++ (le 1 k.toNat ++ (le 1 x.m.toNat ++ (le 2 x.b.toNat ++ (le 2 x.s.toNat ++ (le 2 x.t.toNat ++ (le 2 x.n.toNat ++ (le 4 x.l.toNat ++ r))))))) :=
    ⟨le 4 (cs (supL x k)) ++ List.replicate n 0, by rw [e]; unfold sealL; generalize cs (supL x k) = q; unfold supL; simp only [List.append_assoc]⟩
  rw [hr]
  have d4 := drop_le 4 827540562 (le 1 k.toNat ++ (le 1 x.m.toNat ++ (le 2 x.b.toNat ++ (le 2 x.s.toNat ++ (le 2 x.t.toNat ++ (le 2 x.n.toNat ++ (le 4 x.l.toNat ++ r)))))))
  generalize hX : le 4 827540562 ++ (le 1 k.toNat ++ (le 1 x.m.toNat ++ (le 2 x.b.toNat ++ (le 2 x.s.toNat ++ (le 2 x.t.toNat ++ (le 2 x.n.toNat ++ (le 4 x.l.toNat ++ r))))))) = X at d4
  have d5 := drop_step (j := 5) d4 rfl
  have d6 := drop_step (j := 6) d5 rfl
  have d8 := drop_step (j := 8) d6 rfl
  have d10 := drop_step (j := 10) d8 rfl
  have d12 := drop_step (j := 12) d10 rfl
  have d14 := drop_step (j := 14) d12 rfl
  refine ⟨nf_at (i := 0) (by rw [List.drop_zero]; exact hX.symm) (by decide) (by decide), nf_at d4 (by decide) ?_, nf_at d5 (by decide) ?_, nf_at d6 (by decide) ?_, nf_at d8 (by decide) ?_, nf_at d10 (by decide) ?_, nf_at d12 (by decide) ?_, nf_at d14 (by decide) ?_⟩ <;> omega
theorem sect_dec (h : LbOk x k) : dLab (sect x k) = (if k < x.m then lbv x k else z7) ∧ dCode (sect x k) = (if k < x.m then 0 else 4) := by
  have hl := sect_len h
  obtain ⟨n0, n1, n2, n3, n4, n5, n6, n7⟩ := sect_nf h
  have h22 : 22 ≤ (sect x k).length := by have := h.b; omega
  obtain ⟨hmay, hk, h1, h2, h3, h4, h5, h6⟩ := h
  have hlab : labS (sect x k) = x := by
    unfold labS
    rw [n2, n3, n4, n5, n6, n7]
    obtain ⟨m, b, s, t, n, l⟩ := x
    simp only at h1 h2 h3 h4 h5 h6 ⊢
    congr 1 <;> omega
  have hg : goodS (sect x k) = decide (k < x.m) := by
    unfold goodS
    rw [hlab, n0, n1, hmay, sect_zeros, hl, show ((k.toNat : Nat) : Int) = k by omega, show ((x.b.toNat : Nat) : Int) = x.b by omega]
    simp
  have hk2 : ((nf (sect x k) 4 1 : Nat) : Int) = k := by rw [n1]; omega
  unfold dLab dCode
  rw [if_pos ⟨h22, sect_sealed x k⟩, if_pos h22, if_pos (sect_sealed x k)]
  unfold gLab gCode
  rw [hg, hlab, hk2]
  by_cases hlt : k < x.m
  · rw [decide_eq_true hlt, if_pos rfl, if_pos hlt, if_pos rfl, if_pos hlt]
    exact ⟨rfl, rfl⟩
  · rw [decide_eq_false hlt, if_neg hlt, if_neg hlt]
    exact ⟨rfl, rfl⟩
end
theorem lb_eql (m b s t n l k : Int) (W : World) : (binOp .eql 29 (.agg #[.int .i64 m, .int .i64 b, .int .i64 s, .int .i64 t, .int .i64 n, .int .i64 l, .int .i64 k]) (.agg #[.int .i64 m, .int .i64 b, .int .i64 s, .int .i64 t, .int .i64 n, .int .i64 l, .int .i64 k])).run Try.prog W = .ok (.bool true) W := by
  go_simp
theorem sh_eql (m b s t n l : Int) (W : World) : (binOp .eql 26 (.agg #[.int .i64 m, .int .i64 b, .int .i64 s, .int .i64 t, .int .i64 n, .int .i64 l]) (.agg #[.int .i64 m, .int .i64 b, .int .i64 s, .int .i64 t, .int .i64 n, .int .i64 l])).run Try.prog W = .ok (.bool true) W := by
  go_simp
/-- Encode, and Decode of what it tells, in one. -/
theorem encodeL (x : Sh) (k : Int) (h : LbOk x k) (w : World) :
    Calls Try.prog 10 #[.agg #[.int .i64 x.m, .int .i64 x.b, .int .i64 x.s, .int .i64 x.t, .int .i64 x.n, .int .i64 x.l, .int .i64 k]] w fun e w' => ∃ A c, e = .returned (.slice A (sect x k).length c) ∧ Rd w' A (byv (sect x k)) ∧ (sect x k).length ≤ c ∧ Below w.heap.size w w' := by
  refine (encode_ok x k w h.sm (by have := h.k; omega) (by have := h.b; omega)).mono ?_
  rintro e w' ⟨⟨A, c, rfl, h1, h2⟩, h3⟩
  exact ⟨A, c, rfl, h1, h2, h3⟩
theorem decodeL (x : Sh) (k : Int) (h : LbOk x k) (A : Option Addr) (c : Nat) (w : World) (hr : Rd w A (byv (sect x k))) (hc : (sect x k).length ≤ c) (hlt : k < x.m) :
    Calls Try.prog 11 #[.slice A (sect x k).length c] w fun e w' => e = .returned (.tuple #[.agg #[.int .i64 x.m, .int .i64 x.b, .int .i64 x.s, .int .i64 x.t, .int .i64 x.n, .int .i64 x.l, .int .i64 k], .int .i64 0]) ∧ Below w.heap.size w w' := by
  have hd := sect_dec h
  rw [if_pos hlt, if_pos hlt] at hd
  refine (decode_ok A c (sect x k) w hr (by rw [sect_len h]; have := h.b; omega) hc (sect_oct x k)).mono ?_
  rintro e w' ⟨rfl, h3⟩
  rw [hd.1, hd.2]
  exact ⟨rfl, h3⟩
theorem decodeN (x : Sh) (k : Int) (h : LbOk x k) (A : Option Addr) (c : Nat) (w : World) (hr : Rd w A (byv (sect x k))) (hc : (sect x k).length ≤ c) (hle : x.m ≤ k) :
    Calls Try.prog 11 #[.slice A (sect x k).length c] w fun e w' => e = .returned (.tuple #[.agg #[.int .i64 0, .int .i64 0, .int .i64 0, .int .i64 0, .int .i64 0, .int .i64 0, .int .i64 0], .int .i64 4]) ∧ Below w.heap.size w w' := by
  have hlt : ¬ k < x.m := Int.not_lt.2 hle
  have hd := sect_dec h
  rw [if_neg hlt, if_neg hlt] at hd
  refine (decode_ok A c (sect x k) w hr (by rw [sect_len h]; have := h.b; omega) hc (sect_oct x k)).mono ?_
  rintro e w' ⟨rfl, h3⟩
  rw [hd.1, hd.2]
  exact ⟨rfl, h3⟩
theorem shapeL (a b c d e f : Int) (x : Sh) (hx : x = shOf a b c d e f) (h : Ok8 a b c d e f) (w : World) :
    Calls Try.prog 8 #[.agg #[.int .u8 a, .int .u8 b, .int .u8 c, .int .u8 d, .int .u8 e, .int .u8 f]] w fun en w' => en = .returned (.agg #[.int .i64 x.m, .int .i64 x.b, .int .i64 x.s, .int .i64 x.t, .int .i64 x.n, .int .i64 x.l]) ∧ Below w.heap.size w w' := by
  subst hx
  exact shape_ok a b c d e f w h
theorem tellsL (x : Sh) (k : Int) (h : LbOk x k) (w : World) :
    Calls Try.prog 12 #[.agg #[.int .i64 x.m, .int .i64 x.b, .int .i64 x.s, .int .i64 x.t, .int .i64 x.n, .int .i64 x.l, .int .i64 k]] w fun e w' => ∃ A c, e = .returned (.slice A (sect x k).length c) ∧ w'.ownsRow w.heap.size 5 1 (.slice A (sect x k).length c) (sect x k).length (byv (sect x k)) ∧ (sect x k).length ≤ c ∧ Below w.heap.size w w' := by
  refine (tells_ok x k w h.sm h.k (by have := h.m; omega) (by have := h.b; omega)).mono ?_
  rintro e w' ⟨⟨r, rfl, h1⟩, h3⟩
  obtain ⟨A, c, rfl, -, h2, -⟩ := own_formc h1
  exact ⟨A, c, rfl, h1, h2, h3⟩
theorem ok8_0 : Ok8 0 0 0 0 0 0 := ⟨by omega, by omega, by omega, by omega, by omega, by omega⟩
set_option maxRecDepth 100000 in
set_option maxHeartbeats 6400000 in
theorem awake_ok (w : World) : Calls Try.prog 7 #[] w fun e w' => e = .returned (.bool true) ∧ Below w.heap.size w w' := by
  obtain ⟨x, hx⟩ : ∃ x, x = shOf 0 0 0 0 0 0 := ⟨_, rfl⟩
  have hok : LbOk x 2 := by rw [hx]; exact shOf_ok ok8_0 (by omega)
  have h2 : (2 : Int) < x.m := by rw [hx]; decide
  have HX := Lib.hid hx
  have HOK := Lib.hid hok
  have H2 := Lib.hid h2
  have hq := fun W => sh_eql x.m x.b x.s x.t x.n x.l W
  clear hx hok h2
  go_enter Try.func7, Try.ntmps7
  go_wp2_with (first
    | (go_at_call 8; (with_reducible refine (shapeL 0 0 0 0 0 0 x HX.out ok8_0 _).mono ?_); rintro e w1 ⟨rfl, hb1⟩; have HB1 : Hid (Below w.heap.size w (w1.alloc (.cells #[.int .i64 x.m, .int .i64 x.b, .int .i64 x.s, .int .i64 x.t, .int .i64 x.n, .int .i64 x.l] 26))) := Lib.hid (hb1.alloc hb1.size _); have hs1 := Blk.new w1 26 #[.int .i64 x.m, .int .i64 x.b, .int .i64 x.s, .int .i64 x.t, .int .i64 x.n, .int .i64 x.l]; have HS1 := Lib.hid hs1; clear hb1 hs1)
    | (go_at_call 10; (with_reducible refine (encodeL x 2 HOK.out _).mono ?_); rintro e w2 ⟨A2, c2, rfl, hr2, hc2, hb2⟩; have HB2 := Lib.hid (HB1.out.trans (hb2.mono HB1.out.size)); have HS2 := Lib.hid (HS1.out.later hb2); have HR2 := Lib.hid hr2; have HC2 := Lib.hid hc2; clear hb2 hr2 hc2)
    | (go_at_call 11; (with_reducible refine (decodeL x 2 HOK.out A2 c2 _ HR2.out HC2.out H2.out).mono ?_); rintro e w3 ⟨rfl, hb3⟩; have HB3 := Lib.hid (HB2.out.trans (hb3.mono HB2.out.size)); have hs3 := (HS2.out.later hb3).alloc (.cells #[.int .i64 x.m, .int .i64 x.b, .int .i64 x.s, .int .i64 x.t, .int .i64 x.n, .int .i64 x.l, .int .i64 2] 29); have s0 := hs3.at_ (i := 0) (u := .int .i64 x.m) rfl; have s1 := hs3.at_ (i := 1) (u := .int .i64 x.b) rfl; have s2 := hs3.at_ (i := 2) (u := .int .i64 x.s) rfl; have s3 := hs3.at_ (i := 3) (u := .int .i64 x.t) rfl; have s4 := hs3.at_ (i := 4) (u := .int .i64 x.n) rfl; have s5 := hs3.at_ (i := 5) (u := .int .i64 x.l) rfl; clear hb3 hs3)
    | fail "no")
  go_ret
  exact ⟨rfl, HB3.out.alloc HB3.out.size _⟩
end Go.Proofs.Ytcgodkahkgpojaa
