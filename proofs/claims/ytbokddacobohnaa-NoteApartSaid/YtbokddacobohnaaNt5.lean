/- The walk of the law's Tells. No further condition. -/
import Derived.Test.YtbokddacobohnaaNt4
namespace Go.Proofs.Ytbokddacobohnaa
open Go.RowKit
attribute [local go_sem ↓] Go.wp_at_zero Go.wp_at_succ

/-- Bytes that a call has made. -/
structure Bw (w0 W : World) (v : Value) (xs : List Int) : Prop where
  row : W.ownsRow w0.heap.size 5 1 v xs.length (byv xs)
  bel : Below w0.heap.size w0 W
section
variable {w0 W W' : World} {v v' : Value} {xs ys : List Int}
theorem Bw.later (k : Bw w0 W v xs) (h : Below W.heap.size W W') : Bw w0 W' v xs := ⟨ownsRow_later k.row h, k.bel.trans (h.mono k.bel.size)⟩
theorem Bw.grow {W2 : World} (k : Bw w0 W v xs) (h : Below W.heap.size W W') (hg : W'.grownBy W2 v.ownBlock) (ho : W2.ownsRow w0.heap.size 5 1 v' (xs.length + ys.length) (byv xs ++ byv ys)) : Bw w0 W2 v' (xs ++ ys) :=
  ⟨by rw [List.length_append, byv_app]; exact ho, (k.later h).bel.grown hg (k.later h).bel.size fun b hb => (k.row.lt b hb).1⟩
theorem Bw.form (k : Bw w0 W v xs) : ∃ A c, v = .slice A xs.length c ∧ Rd W A (byv xs) ∧ xs.length ≤ c := by
  obtain ⟨A, c, e, h1, h2, -⟩ := own_formc k.row
  exact ⟨A, c, e, h1, h2⟩
theorem ownsRow_blk {w : World} {g base : Nat} {e : TypeId} {cs : Array Value} {n : Nat} (h : Blk w g e cs) (hn : cs.size = n) (hb : base ≤ g) (hm : n ≤ maxLen) : w.ownsRow base e 1 (.slice (some ⟨g, 0, none⟩) n n) n cs.toList := by
  subst hn
  exact ⟨by simp, .inr ⟨g, cs.size, cs, rfl, hb, h, Nat.le_refl _, hm, by simp, by rw [Nat.mul_one]; exact List.take_of_length_le (by simp)⟩⟩
end
theorem lputE (size n : Nat) (z m : Int) (hz : z = size) (hm : m = n) (w : World) (h8 : size ≤ 8) (hn : n < 18446744073709551616) :
    Calls Try.prog 24 #[.int .i64 z, .int .u64 m] w fun e w' => ∃ A c, e = .returned (.slice A (le size n).length c) ∧ Rd w' A (byv (le size n)) ∧ Below w.heap.size w w' := by
  subst hz hm
  refine (lput_ok size n w h8 hn).mono ?_
  rintro e w' ⟨r, rfl, h1, h2⟩
  obtain ⟨A, c, rfl, h3, -, -⟩ := own_formc h1
  exact ⟨A, c, rfl, h3, h2⟩
theorem ownsRow_base {w : World} {b b' : Nat} {e : TypeId} {size n : Nat} {v : Value} {xs : List Value} (k : w.ownsRow b e size v n xs) (h : b' ≤ b) : w.ownsRow b' e size v n xs := by
  refine ⟨k.1, ?_⟩
  rcases k.2 with h1 | ⟨g, cap, cur, e1, hb, r⟩
  · exact .inl h1
  · exact .inr ⟨g, cap, cur, e1, Nat.le_trans h hb, r⟩
theorem le1 {n : Nat} (h : n < 256) : le 1 n = [(n : Int)] := by simp [le, byteAt]; omega
set_option maxRecDepth 100000 in
set_option maxHeartbeats 12800000 in
theorem tells_ok (A : Option Addr) (c : Nat) (l : List En) (seq n1 : Nat) (block : Int) (w : World) (ra : Rd w A (ens l)) (hl : l.length ≤ 1000) (hs : seq < 18446744073709551616) (hn : n1 ≤ 65536) (hwf : ∀ e ∈ l, e.1 < 256 ∧ e.2 < 4294967296) (hb : block ≤ 100000) :
    Calls Try.prog 13 #[.agg #[.int .u64 seq, .int .i64 ((n1 : Int) - 1), .slice A l.length c], .int .i64 block] w fun e w' => (∃ r, e = .returned r ∧ w'.ownsRow w.heap.size 5 1 r (pad (sealL (noteL seq n1 l)) block.toNat).length (byv (pad (sealL (noteL seq n1 l)) block.toNat))) ∧ Below w.heap.size w w' := by
  obtain ⟨i0, hi0, hz0, hz1, hz2⟩ := info_parts (show (Try.prog.info? 5).map (fun i => (i.zero, i.size, i.bytes)) = some (some (.int .u8 0), 1, 1) by kernel_rfl)
  have HRA := Lib.hid ra
  have HWF := Lib.hid hwf
  have hX := Blk.new w 28 #[.int .u64 seq, .int .i64 ((n1 : Int) - 1), .slice A l.length c]
  obtain ⟨W0, hW0⟩ : ∃ W0, W0 = w.alloc (.cells #[.int .u64 seq, .int .i64 ((n1 : Int) - 1), .slice A l.length c] 28) := ⟨_, rfl⟩
  have hB0 : Bw w (W0.alloc (.cells #[.int .u8 78] 5)) (.slice (some ⟨w.heap.size + 1, 0, none⟩) 1 1) (le 1 78) := by
    refine ⟨?_, ?_⟩
    · rw [le1 (by omega)]
      exact ownsRow_blk (cs := #[.int .u8 78]) (Blk.new_ _ _ _ (by rw [hW0]; simp)) rfl (by omega) (by unfold maxLen; omega)
    · rw [hW0]
      exact ((Below.refl _ _).alloc (Nat.le_refl _) _).alloc (by simp) _
  have hX0 : Blk (W0.alloc (.cells #[.int .u8 78] 5)) w.heap.size 28 #[.int .u64 seq, .int .i64 ((n1 : Int) - 1), .slice A l.length c] := by rw [hW0]; exact hX.alloc _
  have HB0 := Lib.hid hB0
  have HX0 := Lib.hid hX0
  obtain ⟨z0, z1, z2⟩ := hX0.cells3
  rw [hW0] at HB0 HX0 z0 z1 z2
  have e1 : IntKind.i64.wrap (n1 : Int) = n1 := IntWalk.i64_in _ (by omega)
  have e2 : IntKind.u64.wrap (n1 : Int) = n1 := by rw [IntKind.wrap_u64]; omega
  clear ra hwf hX hB0 hX0 hW0 W0
  go_enter Try.func13, Try.ntmps13
  go_wp2_with (first
    | (go_at_call 24; (with_reducible refine (lputE 8 seq 8 seq rfl rfl _ (by omega) (by omega)).mono ?_); rintro e w1 ⟨A1, c1, rfl, hr1, hb1⟩; have HB1 := Lib.hid (HB0.out.later hb1); have HX1 := Lib.hid (HX0.out.later hb1); have HR1 := Lib.hid hr1; clear hb1 hr1; obtain ⟨z10, z11, z12⟩ := HX1.out.cells3)
    | (go_at_call 24; (with_reducible refine (lputE 2 n1 2 n1 rfl rfl _ (by omega) (by omega)).mono ?_); rintro e w3 ⟨A3, c3, rfl, hr3, hb3⟩; have HB3 := Lib.hid (HB2.out.later hb3); have HX3 := Lib.hid (HX2.out.later hb3); have HR3 := Lib.hid hr3; clear hb3 hr3; obtain ⟨z30, z31, z32⟩ := HX3.out.cells3)
    | (at_builtin; (refine wpList_append_any _ rfl _ _ 31 rfl w.heap.size 5 i0 (.int .u8 0) 1 1 Try.underlying31 hi0 hz0 hz1 hz2 rfl (by decide) (.slice A2 (le 1 78 ++ le 8 seq).length c2) (le 1 78 ++ le 8 seq).length (byv (le 1 78 ++ le 8 seq)) rfl HB3.out.row A3 (le 2 n1).length c3 (byv (le 2 n1)) rfl (by simp [byv_len]) HR3.out (byv_one _) (by simp [le_len]; unfold maxLen; omega) (by simp [le_len]) HB3.out.bel.size ?_); intro v4 w4 hown4 hg4 hat4; have HX4 := Lib.hid (HX3.out.grown hg4 (fun e => own_blk_ne HB3.out.row HX3.out (by decide) e.symm)); have HB4 := Lib.hid (HB3.out.grow (Below.refl _ _) hg4 hown4); obtain ⟨A4, c4, rfl, -, -⟩ := HB4.out.form; clear hown4 hg4 hat4; obtain ⟨z40, z41, z42⟩ := HX4.out.cells3)
    | (at_builtin; (refine wpList_append_any _ rfl _ _ 31 rfl w.heap.size 5 i0 (.int .u8 0) 1 1 Try.underlying31 hi0 hz0 hz1 hz2 rfl (by decide) _ (le 1 78).length (byv (le 1 78)) rfl HB1.out.row A1 (le 8 seq).length c1 (byv (le 8 seq)) rfl (by simp [byv_len]) HR1.out (byv_one _) (by simp [le_len]; unfold maxLen; omega) (by simp [le_len]) HB1.out.bel.size ?_); intro v2 w2 hown2 hg2 hat2; have HX2 := Lib.hid (HX1.out.grown hg2 (fun e => own_blk_ne HB1.out.row HX1.out (by decide) e.symm)); have HB2 := Lib.hid (HB1.out.grow (Below.refl _ _) hg2 hown2); obtain ⟨A2, c2, rfl, -, -⟩ := HB2.out.form; clear hown2 hg2 hat2; obtain ⟨z20, z21, z22⟩ := HX2.out.cells3))
  go_loopw [5, 7, 23] (fun b _ i wr => ∃ (k n' c' : Nat) (A' : Option Addr), k ≤ l.length ∧ i = .int .i64 k ∧ b = .slice A' n' c' ∧ n' = (noteL seq n1 (l.take k)).length ∧ Bw w wr b (noteL seq n1 (l.take k))) (fun _ _ i _ => l.length - (intOf i).toNat)
  case atStart => exact ⟨0, _, _, _, by omega, rfl, rfl, by simp [noteL, bodyL], by have := HB4.out; simpa [noteL, bodyL] using this⟩
  case round =>
    clear z0 z1 z2 z10 z11 z12 z20 z21 z22 z30 z31 z32 z40 z41 z42 HX0 HX1 HX2 HX3 HX4 HB0 HB1 HB2 HB3 HB4 HR1 HR3
    obtain ⟨k, n', c', A', hk, rfl, rfl, hn', hB⟩ := hrel
    have hln : (noteL seq n1 (l.take k)).length = 11 + k * 5 := by rw [noteL_len, List.length_take]; omega
    by_cases hlt : k < l.length
    · obtain ⟨s, hs⟩ : ∃ s, l[k]? = some s := ⟨_, List.getElem?_eq_getElem hlt⟩
      obtain ⟨x, rfl, c0, c1⟩ := ens_at (HRA.out.later hB.bel) hs
      obtain ⟨s0, s1⟩ := HWF.out s (List.mem_of_getElem? hs)
      have g1 : (k : Int) < l.length := by omega
      have hsn : noteL seq n1 (l.take (k + 1)) = noteL seq n1 (l.take k) ++ le 1 s.1 ++ le 4 s.2 := by rw [take_snoc_pk hs]; unfold noteL; rw [bodyL_snoc]; simp only [List.append_assoc]
      obtain ⟨nl, hnl⟩ : ∃ nl, nl = noteL seq n1 (l.take k) := ⟨_, rfl⟩
      rw [← hnl] at hsn hn' hB hln
      have HSN := Lib.hid hsn
      have HB := Lib.hid hB
      have HN := Lib.hid hn'
      have hN5 : n' ≤ 5011 := by omega
      have u1 : IntKind.u8.wrap (s.1 : Int) = s.1 := by rw [IntKind.wrap_u8]; omega
      have u2 : IntKind.u64.wrap (s.2 : Int) = s.2 := by rw [IntKind.wrap_u64]; omega
      have hw2 := hB.bel.size
      clear hB hs hsn hln hnl hn'
      go_wp2
      have hb1 := Blk.new wr 48 #[.int .i64 s.1, .int .i64 s.2]
      have HB1 := Lib.hid (HB.out.later ((Below.refl wr.heap.size wr).alloc (Nat.le_refl _) (.cells #[.int .i64 s.1, .int .i64 s.2] 48)))
      obtain ⟨z0, z1⟩ := hb1.cells2
      have HX1 := Lib.hid hb1
      obtain ⟨bx, hbx⟩ : ∃ bx, bx = wr.heap.size := ⟨_, rfl⟩
      have hbs : (wr.alloc (.cells #[.int .i64 s.1, .int .i64 s.2] 48)).heap.size = bx + 1 := by rw [hbx]; simp
      rw [← hbx] at HX1 z0 z1 hw2 ⊢
      clear hbx hb1
      generalize wr.alloc (.cells #[.int .i64 s.1, .int .i64 s.2] 48) = W1 at HB1 HX1 z0 z1 hbs ⊢
      have HBS := Lib.hid hbs
      have hba := ((Below.refl W1.heap.size W1).alloc (Nat.le_refl _) (.cells #[.int .u8 s.1] 5)).drew
      have hro1 := HB1.out.later hba
      have hxo1 := HX1.out.later hba
      have hrd1 : Rd (W1.alloc (.cells #[.int .u8 s.1] 5)).drew (some ⟨W1.heap.size, 0, none⟩) (byv [(s.1 : Int)]) := (Rd.one W1 5 (.int .u8 s.1) rfl).later (below_drewN (Below.refl _ _) 1)
      obtain ⟨za0, za1⟩ := hxo1.cells2
      have hrw1 : (W1.alloc (.cells #[.int .u8 s.1] 5)).drew.ownsRow w.heap.size 5 1 (.slice A' n' c') n' (byv nl) := by have := hro1.row; rw [← HN.out] at this; exact this
      have HRO1 := Lib.hid hro1
      have HXO1 := Lib.hid hxo1
      have HRD1 := Lib.hid hrd1
      have HRW1 := Lib.hid hrw1
      have HW1 : Hid (w.heap.size ≤ (W1.alloc (.cells #[.int .u8 s.1] 5)).drew.heap.size) := Lib.hid hro1.bel.size
      clear hba hro1 hxo1 hrd1 hrw1 hbs
      go_region_held3 (fun w' => w'.cell? ⟨bx, 0, none⟩ = some (.int .i64 s.1) ∧ w'.cell? ⟨bx, 1, none⟩ = some (.int .i64 s.2))
        (first | exact ⟨by assumption, by assumption⟩ | go_keep)
        (first
          | (refine step_append_any _ (by rfl) _ _ 31 (by rfl) w.heap.size 5 i0 (.int .u8 0) 1 1 Try.underlying31 hi0 hz0 hz1 hz2 rfl (by decide) (.slice A' n' c') n' (byv nl) (by rfl) HRW1.out (some ⟨W1.heap.size, 0, none⟩) 1 1 (byv [(s.1 : Int)]) (by rfl) rfl HRD1.out (byv_one _) (by unfold maxLen; omega) (by omega) HW1.out ?_; intro v2 w2 hown2 hg2 hat2; have HX2 := Lib.hid (HXO1.out.grown hg2 (fun e => own_blk_ne HRW1.out HXO1.out (by decide) e.symm)); have HB2 : Hid (Bw w w2 v2 (nl ++ [(s.1 : Int)])) := Lib.hid (HRO1.out.grow (Below.refl _ _) hg2 (by rw [← HN.out]; exact hown2)); obtain ⟨A2', c2', rfl, -, -⟩ := own_form hown2; clear hown2 hg2 hat2; obtain ⟨zb0, zb1⟩ := HX2.out.cells2)
          | (go_at_call 24; (with_reducible refine (lputE 4 s.2 4 s.2 rfl rfl _ (by omega) (by omega)).mono ?_); rintro e w3 ⟨A3', c3', rfl, hr3, hb3⟩; have HB3 := Lib.hid (HB2.out.later hb3); have HX3 := Lib.hid (HX2.out.later hb3); have HR3 := Lib.hid hr3; have hrw3 : w3.ownsRow w.heap.size 5 1 (.slice A2' (n' + 1) c2') (n' + 1) (byv (nl ++ [(s.1 : Int)])) := (by have := HB3.out.row; rw [List.length_append, ← HN.out] at this; exact this); have HRW3 := Lib.hid hrw3; clear hb3 hr3 hrw3; obtain ⟨zc0, zc1⟩ := HX3.out.cells2)
          | (refine step_append_any _ (by rfl) _ _ 31 (by rfl) w.heap.size 5 i0 (.int .u8 0) 1 1 Try.underlying31 hi0 hz0 hz1 hz2 rfl (by decide) (.slice A2' (n' + 1) c2') (n' + 1) (byv (nl ++ [(s.1 : Int)])) (by rfl) HRW3.out A3' (le 4 s.2).length c3' (byv (le 4 s.2)) (by rfl) (by simp [byv_len]) HR3.out (byv_one _) (by simp [le_len]; unfold maxLen; omega) (by simp [le_len]; omega) HB3.out.bel.size ?_; intro v4 w4 hown4 hg4 hat4; have HX4 := Lib.hid (HX3.out.grown hg4 (fun e => own_blk_ne HRW3.out HX3.out (by decide) e.symm)); have HB4 : Hid (Bw w w4 v4 ((nl ++ [(s.1 : Int)]) ++ le 4 s.2)) := Lib.hid (HB3.out.grow (Below.refl _ _) hg4 (by rw [List.length_append, ← HN.out]; exact hown4)); obtain ⟨A4', c4', rfl, -, -⟩ := own_form hown4; clear hown4 hg4 hat4; obtain ⟨zd0, zd1⟩ := HX4.out.cells2))
      go_wp2
      go_roundw
      case rel => exact ⟨k + 1, _, c4', A4', by omega, by go_num, rfl, by rw [HSN.out, le1 s0, List.length_append, List.length_append, ← HN.out]; rfl, by rw [HSN.out, le1 s0]; exact HB4.out⟩
      case measure => simp [intOf]; omega
    · obtain rfl : k = l.length := by omega
      rw [List.take_length] at hn' hB hln
      have HB := Lib.hid hB
      obtain ⟨nl, hnl⟩ : ∃ nl, nl = noteL seq n1 l := ⟨_, rfl⟩
      have HO := Lib.hid (noteL_oct seq n1 l)
      rw [← hnl] at hn' HB hln HO
      have HNL := Lib.hid hnl
      obtain ⟨A5, c5, e5, hr5, -⟩ := HB.out.form
      injection e5 with e5 e6 e7
      subst e5 e7
      have HR5 := Lib.hid hr5
      have HN := Lib.hid hn'
      have hnl5 : nl.length ≤ 100000 := by omega
      clear hB hnl hn' hr5 hln e6
      rw [HN.out]
      go_wp2_with (go_at_call 14; (with_reducible refine (sealed_ok A' c' nl _ HR5.out (by omega) HO.out).mono ?_); rintro e w6 ⟨r6, rfl, hown6, hb6⟩; have HB6 : Hid (Bw w w6 r6 (sealL nl)) := Lib.hid ⟨ownsRow_base hown6 HB.out.bel.size, HB.out.bel.trans (hb6.mono HB.out.bel.size)⟩; obtain ⟨A6, c6, rfl, -, -⟩ := own_form hown6; clear hown6 hb6)
      have hlx : (sealL nl).length ≤ 100004 := by rw [sealL_len]; omega
      obtain ⟨xs, hxs⟩ : ∃ xs, xs = sealL nl := ⟨_, rfl⟩
      rw [← hxs] at HB6 hlx ⊢
      have HXS := Lib.hid hxs
      obtain ⟨m, hm⟩ : ∃ m, m = block.toNat - xs.length := ⟨_, rfl⟩
      have HM := Lib.hid hm
      clear hxs hm HB HR5 HN hnl5
      go_loopw [5] (fun r wr => ∃ (k : Nat) (A' : Option Addr) (c' : Nat), k ≤ m ∧ r = .slice A' (xs.length + k) c' ∧ wr.ownsRow w.heap.size 5 1 r (xs.length + k) (byv (xs ++ List.replicate k 0)) ∧ Below w.heap.size w wr) (fun r _ => block.toNat - (match r with | .slice _ n _ => n | _ => 0))
      case atStart => exact ⟨0, A6, c6, by omega, rfl, by simpa using HB6.out.row, HB6.out.bel⟩
      case round =>
        obtain ⟨k, A7, c7, hk, rfl, hown, hB⟩ := hrel
        have hm1 := HM.out
        have HO := Lib.hid hown
        have HB := Lib.hid hB
        clear hown hB
        by_cases hlt : xs.length + k < block.toNat
        · have hlt2 : (xs.length : Int) + k < block := by omega
          have hk2 : k + 1 ≤ m := by omega
          clear hm1
          go_wp2_with (at_builtin; refine wpList_append_any _ rfl _ _ 31 rfl w.heap.size 5 i0 (.int .u8 0) 1 1 Try.underlying31 hi0 hz0 hz1 hz2 rfl (by decide) _ (xs.length + k) (byv (xs ++ List.replicate k 0)) rfl (HO.out.alloc _) (some ⟨wr.heap.size, 0, none⟩) 1 1 [.int .u8 0] rfl rfl (Rd.one _ _ _ rfl) (by intro u hu; simp at hu; subst hu; rfl) (by unfold maxLen; omega) (by omega) (by have := HB.out.size; simp; omega) ?_; intro v2 w2 hown2 hg2 hat2; obtain ⟨A2, c2, rfl, -, -⟩ := own_form hown2)
          go_roundw
          case rel =>
            refine ⟨k + 1, A2, c2, hk2, rfl, ?_, (HB.out.alloc HB.out.size _).grown hg2 (by have := HB.out.size; simp; omega) fun b hb => (HO.out.lt b hb).1⟩
            rw [List.replicate_succ', ← List.append_assoc, byv_app]
            exact hown2
          case measure => simp; omega
        · obtain rfl : k = m := by omega
          have hlt2 : block ≤ (xs.length : Int) + k := by omega
          have e : pad xs block.toNat = xs ++ List.replicate k 0 := by rw [pad, ← hm1]
          have HE := Lib.hid e
          clear hm1 e
          go_wp2
          go_ret
          rw [← HNL.out, ← HXS.out, HE.out]
          exact ⟨⟨_, rfl, by have := HO.out; simpa using this⟩, HB.out⟩
end Go.Proofs.Ytbokddacobohnaa
