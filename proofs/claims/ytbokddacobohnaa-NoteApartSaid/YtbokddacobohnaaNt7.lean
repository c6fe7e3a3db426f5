/- The walks of chapter 09's Awake and NoteBack. No further condition. -/
import Derived.Test.YtbokddacobohnaaNt6
namespace Go.Proofs.Ytbokddacobohnaa
open Go.RowKit
attribute [local go_sem ↓] Go.wp_at_zero Go.wp_at_succ

theorem pad_eq (xs : List Int) (n : Nat) : pad xs n = xs ++ List.replicate (n - xs.length) 0 := rfl
theorem decodeB (A : Option Addr) (c seq n1 : Nat) (l : List En) (k : Nat) (w : World) (n : Nat) (z : Int) (hz : z = l.length) (hn : n = (sealL (noteL seq n1 l) ++ List.replicate k 0).length) (hr : Rd w A (byv (sealL (noteL seq n1 l) ++ List.replicate k 0))) (hk : k ≤ 1000) (hl : l.length ≤ 1000) (hc : n ≤ c)
    (hs : seq < 18446744073709551616) (hn1 : n1 < 65536) (hok : EnOk l) :
    Calls Try.prog 12 #[.slice A n c, .int .i64 z] w fun e w' => (∃ B d, e = .returned (.tuple #[.agg #[.int .u64 seq, .int .i64 ((n1 : Int) - 1), .slice B l.length d], .int .i64 0]) ∧ Rd w' B (ens l)) ∧ Below w.heap.size w w' := by
  subst hn hz
  have hxl : (sealL (noteL seq n1 l) ++ List.replicate k 0).length ≤ 100000 := by rw [List.length_append, sealL_len, noteL_len, List.length_replicate]; omega
  have hxo : Oct (sealL (noteL seq n1 l) ++ List.replicate k 0) := (sealL_oct (noteL_oct seq n1 l)).app fun x hx => by rw [List.eq_of_mem_replicate hx]; omega
  obtain ⟨h0, h1, h2, h3⟩ := dec_back seq n1 l k hs hn1 hok
  have := decode_ok A c _ (l.length : Int) w hr hxl hc hxo
  rw [h0, h1, h2, h3] at this
  exact this
theorem enOk_make (l : List En) (h : SlOk l) : EnOk (l.map mk1) := by
  intro e he
  obtain ⟨s, hs, rfl⟩ := List.mem_map.1 he
  obtain ⟨h1, h2⟩ := h s hs
  unfold mk1
  refine ⟨Nat.mod_lt _ (by decide), ?_, fun h0 => ?_⟩
  · show (if s.1 % 4 = 0 then 0 else s.2) < _
    split <;> omega
  · show (if s.1 % 4 = 0 then 0 else s.2) = 0
    rw [if_pos h0]
set_option maxRecDepth 100000 in
set_option maxHeartbeats 6400000 in
theorem awake_ok (w : World) : Calls Try.prog 7 #[] w fun e w' => e = .returned (.bool true) ∧ Below w.heap.size w w' := by
  have henc := encode_ok none 0 [] 5 0 0 w (Rd.nil _ _) (by decide) (by decide) (by decide) (by simp) (by decide)
  have hpad : pad (sealL (noteL 5 0 [])) (0 : Int).toNat = sealL (noteL 5 0 []) ++ List.replicate 0 0 := by rw [Int.toNat_zero, pad_long (Nat.zero_le _)]; simp
  rw [hpad] at henc
  have hlen : (sealL (noteL 5 0 []) ++ List.replicate 0 (0 : Int)).length = 15 := by rw [List.length_append, sealL_len, noteL_len]; rfl
  have HENC : Hid (Calls Try.prog 10 #[.agg #[.int .u64 5, .int .i64 (-1), .slice none 0 0], .int .i64 0] w fun e w' => Sl w' e (sealL (noteL 5 0 []) ++ List.replicate 0 0) ∧ Below w.heap.size w w') := Lib.hid henc
  have HL := Lib.hid hlen
  have hdec := fun A c W hr hc => decodeB A c 5 0 [] 0 W 15 0 rfl hlen.symm hr (by decide) (by decide) hc (by decide) (by decide) (by intro e he; simp at he)
  have HDEC : Hid (∀ A c W, Rd W A (byv (sealL (noteL 5 0 []) ++ List.replicate 0 0)) → 15 ≤ c → Calls Try.prog 12 #[.slice A 15 c, .int .i64 0] W fun e w' => (∃ B d, e = .returned (.tuple #[.agg #[.int .u64 5, .int .i64 (-1), .slice B 0 d], .int .i64 0]) ∧ Rd w' B (ens [])) ∧ Below W.heap.size W w') := Lib.hid hdec
  clear henc hpad hlen hdec
  go_enter Try.func7, Try.ntmps7
  go_wp2_with (first
    | (go_at_call 10; (with_reducible refine HENC.out.mono ?_); rintro e w1 ⟨⟨A1, c1, rfl, hr1, hc1⟩, hb1⟩; rw [HL.out]; rw [HL.out] at hc1; have HR1 := Lib.hid hr1; have HB1 := Lib.hid hb1; have HC1 := Lib.hid hc1; clear hr1 hb1 hc1)
    | (go_at_call 12; (with_reducible refine (HDEC.out _ _ _ HR1.out HC1.out).mono ?_); rintro e w2 ⟨⟨B2, d2, rfl, hr2⟩, hb2⟩; have HB2 := Lib.hid (HB1.out.trans (hb2.mono HB1.out.size)); clear hr2 hb2))
  go_ret
  exact ⟨rfl, HB2.out.alloc HB2.out.size _⟩
theorem sealed_few (seq n1 : Nat) (l : List En) (hl : l.length ≤ 1000) (k : Nat) (hk : k ≤ 1000) : (sealL (noteL seq n1 l) ++ List.replicate k 0).length ≤ 10000 := by rw [List.length_append, sealL_len, noteL_len, List.length_replicate]; omega
set_option maxRecDepth 100000 in
set_option maxHeartbeats 12800000 in
theorem back_walk (A : Option Addr) (c : Nat) (l0 : List En) (seq n1 b : Nat) (w : World) (ra : Rd w A (sls l0)) (hm : l0.length ≤ 9223372036854775807) (hwf : SlOk l0) (hs : seq < 18446744073709551616) (hn : n1 < 65536) (hb : b ≤ 255) :
    Calls Try.prog 4 #[.int .u64 seq, .int .u16 n1, .slice A l0.length c, .int .u8 b] w fun e w' => e = .returned (.bool true) ∧ Below w.heap.size w w' := by
  have HAW := Lib.hid (awake_ok w)
  by_cases hlong : 20 < l0.length
  · go_enter Try.func4, Try.ntmps4
    go_wp2_with (go_at_call 7; refine HAW.out.mono ?_; rintro e w1 ⟨rfl, hb1⟩)
    go_ret
    exact ⟨rfl, hb1⟩
  have hfew : l0.length ≤ 20 := by omega
  obtain ⟨l, hl⟩ : ∃ l, l = l0.map mk1 := ⟨_, rfl⟩
  have hll : l.length = l0.length := by rw [hl, List.length_map]
  have hok : EnOk l := by rw [hl]; exact enOk_make l0 hwf
  obtain ⟨k, hk⟩ : ∃ k, k = b - (sealL (noteL seq n1 l)).length := ⟨_, rfl⟩
  have hpad : pad (sealL (noteL seq n1 l)) ((b : Nat) : Int).toNat = sealL (noteL seq n1 l) ++ List.replicate k 0 := by rw [pad_eq, hk, Int.toNat_natCast]
  have hxl := sealed_few seq n1 l (by omega) k (by omega)
  obtain ⟨xs, hxs⟩ : ∃ xs, xs = sealL (noteL seq n1 l) ++ List.replicate k 0 := ⟨_, rfl⟩
  have hmake := make_ok A c l0 seq n1 w
  have hmk := fun W (hW : Rd W A (sls l0)) => make_ok A c l0 seq n1 W hW (by omega) hwf (by omega)
  rw [← hl, ← hll] at hmk
  have henc := fun W B d (hW : Rd W B (ens l)) => encode_ok B d l seq n1 b W hW (by omega) hs (by omega) (fun e he => ⟨by have := (hok e he).1; omega, (hok e he).2.1⟩) (by omega)
  have htel := fun W B d (hW : Rd W B (ens l)) => tells_ok B d l seq n1 b W hW (by omega) hs (by omega) (fun e he => ⟨by have := (hok e he).1; omega, (hok e he).2.1⟩) (by omega)
  have hdec := fun W B d hr hc => decodeB B d seq n1 l k W xs.length l.length rfl (by rw [hxs]) hr (by omega) (by omega) hc hs hn hok
  rw [hpad] at henc htel
  rw [← hxs] at henc htel hdec hxl
  have HMK := Lib.hid hmk
  have HENC := Lib.hid henc
  have HTEL := Lib.hid htel
  have HDEC := Lib.hid hdec
  have HRA := Lib.hid ra
  have hlf : l.length ≤ 20 := by omega
  have HLF := Lib.hid hlf
  have HXL := Lib.hid hxl
  have hlt : decide (20 < l.length) = false := by simp; omega
  have hlt2 : decide ((20 : Int) < (l.length : Int)) = false := by simp; omega
  have w8 : IntKind.i64.wrap (b : Int) = b := IntWalk.i64_in _ (by omega)
  rw [← hll]
  clear hwf hl hok hk hpad hxl hxs hmk henc htel hdec ra hmake hlong hm hlf hfew hll
  go_enter Try.func4, Try.ntmps4
  go_wp2_with (first
    | (go_at_call 7; (with_reducible refine HAW.out.mono ?_); rintro e w1 ⟨rfl, hb1⟩; have HB1 := Lib.hid hb1; have HR1 := Lib.hid (HRA.out.later hb1); clear hb1)
    | (go_at_call 8; (with_reducible refine (HMK.out _ HR1.out).mono ?_); rintro e w2 ⟨v2, rfl, hown2, hb2⟩; obtain ⟨A2, c2, rfl, hr2, -, -⟩ := own_formc hown2; have HB2 := Lib.hid (HB1.out.trans (hb2.mono HB1.out.size)); have HR2 := Lib.hid (hr2.alloc (.cells #[.int .u64 seq, .int .i64 ((n1 : Int) - 1), .slice A2 l.length c2] 28)); have HX2 := Lib.hid (Blk.new w2 28 #[.int .u64 seq, .int .i64 ((n1 : Int) - 1), .slice A2 l.length c2]); clear hown2 hb2 hr2; obtain ⟨x20, x21, x22⟩ := HX2.out.cells3)
    | (go_at_call 10; (with_reducible refine (HENC.out _ _ _ HR2.out).mono ?_); rintro e w3 ⟨⟨A3, c3, rfl, hr3, hc3⟩, hb3⟩; have HR3 := Lib.hid hr3; have HC3 := Lib.hid hc3; have HB3 := Lib.hid ((HB2.out.alloc HB2.out.size _).trans (hb3.mono (Nat.le_trans HB2.out.size (by simp)))); have HL3 := Lib.hid (HR2.out.later hb3); have HX3 := Lib.hid (HX2.out.later hb3); clear hr3 hc3 hb3; obtain ⟨x30, x31, x32⟩ := HX3.out.cells3)
    | (go_at_call 12; (with_reducible refine (HDEC.out _ _ _ HR3.out HC3.out).mono ?_); rintro e w4 ⟨⟨B4, d4, rfl, hr4⟩, hb4⟩; have HB4 := Lib.hid (HB3.out.trans (hb4.mono HB3.out.size)); have HY4 := Lib.hid (Blk.new w4 28 #[.int .u64 seq, .int .i64 ((n1 : Int) - 1), .slice B4 l.length d4]); have hba := (Below.refl w4.heap.size w4).alloc (Nat.le_refl _) (.cells #[.int .u64 seq, .int .i64 ((n1 : Int) - 1), .slice B4 l.length d4] 28); have HX4 := Lib.hid ((HX3.out.later hb4).later hba); have HL4 := Lib.hid ((HL3.out.later hb4).later hba); have HR4 := Lib.hid ((HR3.out.later hb4).later hba); have HE4 := Lib.hid (hr4.later hba); have HB4' := Lib.hid (HB4.out.trans (hba.mono HB4.out.size)); clear hr4 hb4 hba; obtain ⟨x40, x41, x42⟩ := HX4.out.cells3; obtain ⟨y40, y41, y42⟩ := HY4.out.cells3)
    | (go_at_call 13; (with_reducible refine (HTEL.out _ _ _ HL4.out).mono ?_); rintro e w5 ⟨⟨r5, rfl, hown5⟩, hb5⟩; obtain ⟨A5, c5, rfl, hr5, -, -⟩ := own_formc hown5; have HR5 := Lib.hid hr5; have HB5 := Lib.hid (HB4'.out.trans (hb5.mono HB4'.out.size)); have HX5 := Lib.hid (HX4.out.later hb5); have HY5 := Lib.hid (HY4.out.later hb5); have HR45 := Lib.hid (HR4.out.later hb5); have HL5 := Lib.hid (HL4.out.later hb5); have HE5 := Lib.hid (HE4.out.later hb5); clear hown5 hb5 hr5)
    | (go_at_call 9; (with_reducible refine (equalb_ok A3 A5 c3 c5 xs xs _ HR45.out HR5.out (by have := HXL.out; omega)).mono ?_); rintro e w6 ⟨rfl, n6, hw6⟩; subst w6; have hdd : decide (xs = xs) = true := decide_eq_true rfl; have hb6 := below_drewN (Below.refl w5.heap.size w5) n6; have HB6 := Lib.hid (HB5.out.trans (hb6.mono HB5.out.size)); obtain ⟨x60, x61, x62⟩ := (HX5.out.later hb6).cells3; obtain ⟨y60, y61, y62⟩ := (HY5.out.later hb6).cells3; have HL6 := Lib.hid (HL5.out.later hb6); have HE6 := Lib.hid (HE5.out.later hb6); clear hb6)
    | (go_at_call 11; (with_reducible refine (same_ok seq seq ((n1 : Int) - 1) ((n1 : Int) - 1) A2 B4 c2 d4 l l _ HL6.out HE6.out (by have := HLF.out; omega)).mono ?_); rintro e w7 ⟨rfl, hb7⟩; have hds : decide (((seq : Int), (n1 : Int) - 1, l) = ((seq : Int), (n1 : Int) - 1, l)) = true := decide_eq_true rfl; have HB7 := Lib.hid (HB6.out.trans (hb7.mono HB6.out.size))))
  go_ret
  exact ⟨rfl, HB7.out⟩
theorem sls_rd {w : World} {A : Option Addr} (l : List En) (h : ∀ i e, l[i]? = some e → ∃ x, A = some x ∧ w.cell? (x.add (i * 2)) = some (.int .u8 e.1) ∧ w.cell? (x.add (i * 2 + 1)) = some (.int .u32 e.2)) : Rd w A (sls l) := by
  intro j u hu
  have hj : j < (sls l).length := (List.getElem?_eq_some_iff.1 hu).1
  rw [show sls l = l.flatMap slv from rfl, flat_len slv slv_len] at hj
  have hi : j / 2 < l.length := by omega
  obtain ⟨x, e, h0, h1⟩ := h (j / 2) _ (List.getElem?_eq_getElem hi)
  rcases Nat.mod_two_eq_zero_or_one j with hm | hm
  · have hg := flat_get slv slv_len l (j / 2) 0 _ (by decide) (List.getElem?_eq_getElem hi)
    rw [show j / 2 * 2 + 0 = j by omega] at hg
    have : (sls l)[j]? = some (Value.int .u8 (l[j / 2]'hi).1) := hg
    rw [hu] at this
    injection this with this
    subst this
    exact ⟨x, e, by rw [show j / 2 * 2 = j by omega] at h0; exact h0⟩
  · have hg := flat_get slv slv_len l (j / 2) 1 _ (by decide) (List.getElem?_eq_getElem hi)
    rw [show j / 2 * 2 + 1 = j by omega] at hg
    have : (sls l)[j]? = some (Value.int .u32 (l[j / 2]'hi).2) := hg
    rw [hu] at this
    injection this with this
    subst this
    exact ⟨x, e, by rw [show j / 2 * 2 + 1 = j by omega] at h1; exact h1⟩
theorem argS_of {w : World} {A : Option Addr} {len : Nat}
    (h : len ≤ maxLen ∧ ∀ i, i < len → ∃ x, A = some x ∧ ∃ (c0 : Int) (c1 : Int), w.cell? (x.add (i * 2 + 0)) = some (.int .u8 c0) ∧ w.cell? (x.add (i * 2 + 1)) = some (.int .u32 c1) ∧ (Lit.int .u8 c0).wf = true ∧ (Lit.int .u32 c1).wf = true) :
    ∃ l : List En, l.length = len ∧ Rd w A (sls l) ∧ SlOk l := by
  obtain ⟨l, hl, hP⟩ := exists_list (fun i (s : En) => ∃ x, A = some x ∧ w.cell? (x.add (i * 2)) = some (.int .u8 s.1) ∧ w.cell? (x.add (i * 2 + 1)) = some (.int .u32 s.2) ∧ s.1 < 256 ∧ s.2 < 4294967296) len (by
    intro i hi
    obtain ⟨x, hA, c0, c1, h0, h1, w0, w1⟩ := h.2 i hi
    have b0 := u8_in_ w0
    have b1 := u32_in_ w1
    obtain ⟨c0, rfl⟩ := Int.eq_ofNat_of_zero_le b0.1
    obtain ⟨c1, rfl⟩ := Int.eq_ofNat_of_zero_le b1.1
    exact ⟨(c0, c1), x, hA, h0, h1, by show c0 < _; omega, by show c1 < _; omega⟩)
  refine ⟨l, hl, sls_rd l fun i e he => ?_, fun e he => ?_⟩
  · obtain ⟨x, e1, h0, h1, -⟩ := hP i e he
    exact ⟨x, e1, h0, h1⟩
  · obtain ⟨i, hi⟩ := List.getElem?_of_mem he
    obtain ⟨x, e1, h0, h1, h2⟩ := hP i e hi
    exact h2
theorem noteBack_true (seq next : Int) (A : Option Addr) (len c : Nat) (b : Int) (w : World) (hs : (Lit.int .u64 seq).wf = true) (hn : (Lit.int .u16 next).wf = true)
    (h : len ≤ maxLen ∧ ∀ i, i < len → ∃ x, A = some x ∧ ∃ (c0 : Int) (c1 : Int), w.cell? (x.add (i * 2 + 0)) = some (.int .u8 c0) ∧ w.cell? (x.add (i * 2 + 1)) = some (.int .u32 c1) ∧ (Lit.int .u8 c0).wf = true ∧ (Lit.int .u32 c1).wf = true)
    (hb : (Lit.int .u8 b).wf = true) :
    Calls Try.prog 4 #[.int .u64 seq, .int .u16 next, .slice A len c, .int .u8 b] w fun e w' => e = .returned (.bool true) ∧ Below w.heap.size w w' := by
  obtain ⟨l, rfl, ra, hwf⟩ := argS_of h
  have h1 := u64_in_ hs
  have h2 := u16_in_ hn
  have h3 := u8_in_ hb
  obtain ⟨seq, rfl⟩ := Int.eq_ofNat_of_zero_le h1.1
  obtain ⟨next, rfl⟩ := Int.eq_ofNat_of_zero_le h2.1
  obtain ⟨b, rfl⟩ := Int.eq_ofNat_of_zero_le h3.1
  exact back_walk A c l seq next b w ra (by have := h.1; unfold maxLen at this; omega) hwf (by omega) (by omega) (by omega)
end Go.Proofs.Ytbokddacobohnaa
