/- The items that came in, and the walk of PackBack. No further condition. -/
import Derived.Test.YtfaopjbjoiclfaaPk5
namespace Go.Proofs.Ytfaopjbjoiclfaa
open Go.RowKit

/-- An item. -/
structure It where
  size : Int
  n : Nat
  a : Option Addr
  c : Nat
  raw : List Int
  is : Bool
structure It.Ok (w : World) (s : It) : Prop where
  row : Rd w s.a (byv s.raw)
  oct : Oct s.raw
  lo : -128 ≤ s.size
  hi : s.size ≤ 127
  n : s.n < 18446744073709551616
  cap : s.raw.length ≤ s.c
theorem exists_list {α : Type} (P : Nat → α → Prop) : ∀ n, (∀ i, i < n → ∃ v, P i v) → ∃ l : List α, l.length = n ∧ ∀ i v, l[i]? = some v → P i v := by
  intro n
  induction n with
  | zero => intro _; exact ⟨[], rfl, fun i v h => by simp at h⟩
  | succ n ih =>
    intro h
    obtain ⟨l, hl, hP⟩ := ih fun i hi => h i (by omega)
    obtain ⟨v, hv⟩ := h n (by omega)
    refine ⟨l ++ [v], by simp [hl], fun i u hu => ?_⟩
    rcases Nat.lt_or_ge i n with h1 | h1
    · rw [List.getElem?_append_left (by omega)] at hu
      exact hP i u hu
    · have e : i = n := by
        have := (List.getElem?_eq_some_iff.1 hu).1
        simp at this
        omega
      subst e
      rw [List.getElem?_append_right (by omega)] at hu
      simp [hl] at hu
      subst hu
      exact hv
theorem add_field (x : Addr) (i j : Nat) (hj : 0 < j) : x.add (i + j) = ⟨(x.add i).block, (x.add i).off + j, none⟩ := by
  rw [← add_of_add]
  generalize x.add i = y
  unfold Addr.add
  rw [if_neg (by omega)]
/-- The cells of an item. -/
def ItAt (w : World) (p : Addr) (s : It) : Prop := w.cell? p = some (.int .i8 s.size) ∧ w.cell? ⟨p.block, p.off + 1, none⟩ = some (.int .u64 s.n) ∧ w.cell? ⟨p.block, p.off + 2, none⟩ = some (.slice s.a s.raw.length s.c) ∧ w.cell? ⟨p.block, p.off + 3, none⟩ = some (.bool s.is)
/-- The slice at A holds these items. -/
def ArgP (w : World) (A : Option Addr) (l : List It) : Prop := ∀ i s, l[i]? = some s → ∃ x, A = some x ∧ ItAt w (x.add (i * 4)) s ∧ s.Ok w
theorem ArgP.below {w w' : World} {A : Option Addr} {l : List It} (h : ArgP w A l) (hb : Below w.heap.size w w') : ArgP w' A l := by
  intro i s hi
  obtain ⟨x, e, ⟨c0, c1, c2, c3⟩, k⟩ := h i s hi
  exact ⟨x, e, ⟨(hb.cell (World.block_lt_of_cell? w _ c0)).trans c0, (hb.cell (World.block_lt_of_cell? w _ c1)).trans c1, (hb.cell (World.block_lt_of_cell? w _ c2)).trans c2, (hb.cell (World.block_lt_of_cell? w _ c3)).trans c3⟩, ⟨k.row.later hb, k.oct, k.lo, k.hi, k.n, k.cap⟩⟩
def IsB (w : World) (a : Option Addr) (len cap : Nat) (zs : List Int) : Prop :=
  (a = none ∧ len = 0 ∧ cap = 0 ∧ zs = []) ∨
  ∃ x, a = some x ∧ len ≤ cap ∧ cap ≤ maxLen ∧ zs.length = cap ∧ (∀ i, i < zs.length → w.cell? (x.add i) = some (.int .u8 (zs.getD i 0))) ∧ ∀ n ∈ zs, (Lit.int .u8 n).wf = true
theorem u8_in_ {b : Int} (h : (Lit.int .u8 b).wf = true) : 0 ≤ b ∧ b < 256 := by simp [Lit.wf, IntKind.min, IntKind.max, IntKind.bits, IntKind.signed] at h; omega
theorem i8_in_ {b : Int} (h : (Lit.int .i8 b).wf = true) : -128 ≤ b ∧ b ≤ 127 := by simp [Lit.wf, IntKind.min, IntKind.max, IntKind.bits, IntKind.signed] at h; omega
theorem isB_of {w : World} {a : Option Addr} {len cap : Nat} {zs : List Int} (h : IsB w a len cap zs) : ∃ raw : List Int, raw.length = len ∧ Rd w a (byv raw) ∧ Oct raw ∧ len ≤ cap := by
  rcases h with ⟨rfl, rfl, rfl, rfl⟩ | ⟨x, rfl, h1, h2, h3, h4, h5⟩
  · exact ⟨[], rfl, Rd.nil _ _, (fun x hx => by simp at hx), Nat.le_refl _⟩
  · refine ⟨zs.take len, by rw [List.length_take]; omega, fun j u hu => ?_, fun x hx => u8_in_ (h5 x (List.mem_of_mem_take hx)), h1⟩
    rw [byv_take, List.getElem?_take] at hu
    split at hu
    · unfold byv at hu
      rw [List.getElem?_map] at hu
      have hj : j < zs.length := by omega
      rw [List.getElem?_eq_getElem hj] at hu
      injection hu with hu
      refine ⟨x, rfl, ?_⟩
      rw [h4 j hj, ← hu, List.getD_eq_getElem?_getD, List.getElem?_eq_getElem hj]
      rfl
    · cases hu
theorem argP_of {w : World} {A : Option Addr} {len : Nat}
    (h : len ≤ maxLen ∧ ∀ i, i < len → ∃ x, A = some x ∧ ∃ (c0 : Int) (c1 : Int) (a2 : Option Addr) (l2 k2 : Nat) (z2 : List Int) (c3 : Bool), w.cell? (x.add (i * 4 + 0)) = some (.int .i8 c0) ∧ w.cell? (x.add (i * 4 + 1)) = some (.int .u64 c1) ∧ w.cell? (x.add (i * 4 + 2)) = some (.slice a2 l2 k2) ∧ w.cell? (x.add (i * 4 + 3)) = some (.bool c3) ∧
      (Lit.int .i8 c0).wf = true ∧ (Lit.int .u64 c1).wf = true ∧ IsB w a2 l2 k2 z2) :
    ∃ l : List It, l.length = len ∧ ArgP w A l := by
  obtain ⟨l, hl, hP⟩ := exists_list (fun i (s : It) => ∃ x, A = some x ∧ ItAt w (x.add (i * 4)) s ∧ s.Ok w) len (by
    intro i hi
    obtain ⟨x, hA, c0, c1, a2, l2, k2, z2, c3, h0, h1, h2, h3, w0, w1, w2⟩ := h.2 i hi
    obtain ⟨raw, rfl, r1, r2, r3⟩ := isB_of w2
    have b1 := u64_in_ w1
    obtain ⟨n, rfl⟩ := Int.eq_ofNat_of_zero_le b1.1
    exact ⟨⟨c0, n, a2, k2, raw, c3⟩, x, hA, ⟨h0, by rw [← add_field _ _ _ (by decide)]; exact h1, by rw [← add_field _ _ _ (by decide)]; exact h2, by rw [← add_field _ _ _ (by decide)]; exact h3⟩, ⟨r1, r2, (i8_in_ w0).1, (i8_in_ w0).2, by show n < _; omega, r3⟩⟩)
  exact ⟨l, hl, hP⟩
theorem WrTo.later_ {w w1 w2 : World} {B g : Nat} {v v' : Value} {xs : List Int} (k : WrTo w w1 B g v v' xs) (hb : Below w1.heap.size w1 w2) : WrTo w w2 B g v v' xs := ⟨k.wr.later hb, k.fr.later hb, k.row⟩
/-! ### what PackBack puts -/
def sz (s : It) : Nat := 1 + (s.size % 8).toNat
theorem sz_in (s : It) : 1 ≤ sz s ∧ sz s ≤ 8 := by unfold sz; omega
def puts (l : List It) : List Int := l.flatMap fun s => le (sz s) s.n
theorem puts_snoc {l : List It} {k : Nat} {s : It} (h : l[k]? = some s) : puts (l.take (k + 1)) = puts (l.take k) ++ le (sz s) s.n := by
  rw [take_snoc_pk h]
  simp [puts]
theorem puts_len (l : List It) : (puts l).length ≤ 8 * l.length := by
  induction l with
  | nil => simp [puts]
  | cons s l ih =>
    have := (sz_in s).2
    simp only [puts, List.flatMap_cons, List.length_append, le_len, List.length_cons] at ih ⊢
    omega
theorem puts_drop {l : List It} {k : Nat} {s : It} (h : l[k]? = some s) : puts (l.drop k) = le (sz s) s.n ++ puts (l.drop (k + 1)) := by
  obtain ⟨hk, rfl⟩ := List.getElem?_eq_some_iff.1 h
  unfold puts
  rw [List.drop_eq_getElem_cons hk, List.flatMap_cons]
theorem oct_puts (l : List It) : Oct (puts l) := fun x hx => by
  obtain ⟨s, _, hs⟩ := List.mem_flatMap.1 hx
  exact oct_le _ _ x hs
set_option maxRecDepth 100000 in
set_option maxHeartbeats 6400000 in
theorem back_walk (A : Option Addr) (c : Nat) (l : List It) (w : World) (ra : ArgP w A l) (hm : l.length ≤ 9223372036854775807) :
    Calls Try.prog 5 #[.slice A l.length c] w fun e w' => e = .returned (.bool true) ∧ Below w.heap.size w w' := by
  have ha := awake_ok w
  by_cases hlong : 40 < l.length
  · go_enter Try.func5, Try.ntmps5
    go_wp2_with (go_at_call 7; refine ha.mono ?_; rintro e w1 ⟨rfl, hb1⟩)
    go_ret
    exact ⟨rfl, hb1⟩
  have hfew : l.length ≤ 40 := by omega
  have HAW := Lib.hid ha
  have HRA := Lib.hid ra
  clear hlong ha ra hm
  go_enter Try.func5, Try.ntmps5
  go_wp2_with (go_at_call 7; refine HAW.out.mono ?_; rintro e w1 ⟨rfl, hb1⟩; have HW0 := Lib.hid (Wr.new w1 w.heap.size w1.heap.size rfl); have HB0 := Lib.hid (hb1.alloc hb1.size (.cells #[.slice none 0 0] 26)); have hs1 := hb1.size; clear hb1)
  go_loopw [18] (fun i wr => ∃ (k : Nat) (v' : Value), k ≤ l.length ∧ i = .int .i64 k ∧ WrTo (w1.alloc (.cells #[.slice none 0 0] 26)) wr w.heap.size w1.heap.size (.slice none 0 0) v' (puts (l.take k))) (fun i _ => l.length - (intOf i).toNat)
  case atStart => exact ⟨0, _, by omega, rfl, WrTo.refl HW0.out⟩
  case round =>
    obtain ⟨k, v', hk, rfl, hW⟩ := hrel
    have HW := Lib.hid hW
    have HB := Lib.hid (HB0.out.trans (hW.below HW0.out hs1))
    clear hW
    by_cases hlt : k < l.length
    · obtain ⟨s, hs⟩ : ∃ s, l[k]? = some s := ⟨_, List.getElem?_eq_getElem hlt⟩
      obtain ⟨x, rfl, ⟨c0, c1, c2, c3⟩, ok⟩ := HRA.out.below HB.out k s hs
      have g1 : (k : Int) < l.length := by omega
      have hsz : 1 + s.size % 8 = ((sz s : Nat) : Int) := by unfold sz; omega
      have hpl := puts_len (l.take k)
      rw [List.length_take] at hpl
      have HS := Lib.hid hs
      have HSZ := Lib.hid hsz
      have hn := ok.n
      have HPL : Hid ((puts (l.take k)).length ≤ 1000000) := Lib.hid (by omega)
      clear hs hsz hpl ok
      go_wp2_with (go_at_call 8; rw [HSZ.out]; refine (put_some w.heap.size w1.heap.size v' (puts (l.take k)) (sz s) s.n _ (HW.out.wr.later ((Below.refl _ _).alloc (Nat.le_refl _) _)) (sz_in s).1 (sz_in s).2 hn HPL.out (Nat.le_trans HB.out.size (by simp))).mono ?_; rintro e w2 ⟨rfl, v2, k2⟩)
      go_roundw
      case rel =>
        refine ⟨k + 1, v2, by omega, by go_num, ?_⟩
        rw [puts_snoc HS.out]
        exact (HW.out.later_ ((Below.refl _ _).alloc (Nat.le_refl _) _)).trans k2
      case measure => simp [intOf]; omega
    · obtain rfl : k = l.length := by omega
      have hpl := puts_len l
      have HPL : Hid ((puts l).length ≤ 10000000) := Lib.hid (by omega)
      have HPAD : Hid (pad (puts l) (0 : Int).toNat = puts l) := Lib.hid (pad_long (by simp))
      rw [List.take_length] at HW
      clear hpl
      go_wp2_with (first
        | (go_at_call 9; refine (bytes_ok w.heap.size w1.heap.size v' (puts l) 0 _ HW.out.wr HPL.out (by decide)).mono ?_; rintro e w4 ⟨rx, rfl, hown, hb4⟩; rw [HPAD.out] at hown; obtain ⟨A4, c4, rfl, -, hrd⟩ := own_form hown; have HB4 := Lib.hid (HB.out.trans (hb4.mono HB.out.size)); have HRX := Lib.hid hrd; clear hown hrd hb4)
        | (go_at_call 12; refine (read_ok A4 c4 (puts l) _ HRX.out HPL.out).mono ?_; rintro e w5 ⟨g, h, rfl, hg, hh, hre, hb5⟩; have HB5 := Lib.hid (HB4.out.trans (hb5.mono HB4.out.size)); have hg5 := Nat.le_trans HB4.out.size hg; have HRE5 := Lib.hid hre; clear hre hb5 hg hh))
      go_loopw [9, 10, 36] (fun _ _ i wr => ∃ k : Nat, k ≤ l.length ∧ i = .int .i64 k ∧ Re wr g h (puts (l.drop k)) false ∧ Below w.heap.size w wr) (fun _ _ i _ => l.length - (intOf i).toNat)
      case atStart => exact ⟨0, by omega, rfl, HRE5.out, HB5.out⟩
      case round =>
        obtain ⟨k, hk, rfl, hre, hB⟩ := hrel
        by_cases hlt : k < l.length
        · obtain ⟨s, hs⟩ : ∃ s, l[k]? = some s := ⟨_, List.getElem?_eq_getElem hlt⟩
          obtain ⟨x, rfl, ⟨c0, c1, c2, c3⟩, ok⟩ := HRA.out.below hB k s hs
          have g1 : (k : Int) < l.length := by omega
          obtain ⟨m, hm⟩ : ∃ m : Nat, s.size % 8 = m := ⟨(s.size % 8).toNat, by omega⟩
          have hm8 : m < 8 := by omega
          have hsz : sz s = 1 + m := by unfold sz; omega
          have hpl := puts_len (l.drop k)
          rw [List.length_drop] at hpl
          have hpd := puts_drop hs
          have hps : sz s ≤ (puts (l.drop k)).length := by rw [hpd, List.length_append, le_len]; omega
          have htk := fun W hr => take_ok g h (puts (l.drop k)) (sz s) W hr (by omega) hps (oct_puts _)
          have e0 : (puts (l.drop k)).take (sz s) = le (sz s) s.n := by rw [hpd]; exact List.take_left' (le_len _ _)
          have e1 : ((puts (l.drop k)).take (sz s)).take 8 = le (sz s) s.n := by rw [e0]; exact List.take_of_length_le (by rw [le_len]; exact (sz_in s).2)
          have e2 : (puts (l.drop k)).drop (sz s) = puts (l.drop (k + 1)) := by rw [hpd]; exact List.drop_left' (le_len _ _)
          have hN := ok.n
          simp only [e1, e2, num_le] at htk
          rw [hsz] at htk
          have hcl : (((1 + m : Nat) : Int)) = 1 + (m : Int) := by omega
          simp only [hcl] at htk
          have hbk := fun W (f : Fr (· = g) (wr.alloc (.cells #[.int .i8 s.size, .int .u64 s.n, .slice s.a s.raw.length s.c, .bool s.is] 37)) W) => (Blk.new wr 37 #[.int .i8 s.size, .int .u64 s.n, .slice s.a s.raw.length s.c, .bool s.is]).fr f (by obtain ⟨o', c', k1, -⟩ := hre.form; have := k1.lt; omega)
          have HBK := Lib.hid hbk
          have HTK := Lib.hid htk
          have HRE := Lib.hid (hre.later ((Below.refl wr.heap.size wr).alloc (Nat.le_refl _) (.cells #[.int .i8 s.size, .int .u64 s.n, .slice s.a s.raw.length s.c, .bool s.is] 37)))
          have HB6 := Lib.hid (hB.alloc hB.size (.cells #[.int .i8 s.size, .int .u64 s.n, .slice s.a s.raw.length s.c, .bool s.is] 37))
          clear hsz hre hB hpl hpd hps e0 e1 e2 htk hcl hs hbk
          have step : ∀ w5, Re w5 g h (puts (l.drop (k + 1))) false → Fr (· = g) (wr.alloc (.cells #[.int .i8 s.size, .int .u64 s.n, .slice s.a s.raw.length s.c, .bool s.is] 37)) w5 → Below w.heap.size w w5 := fun w5 _ f => HB6.out.trans (f.toBelow HB6.out.size fun b hb e => by omega)
          have HST := Lib.hid step
          clear step
          by_cases hG : s.n % 256 ^ (1 + m) = s.n
          · rw [hG] at HTK
            clear hG
            go_wp2_with (go_at_call 13; refine (HTK.out _ HRE.out).mono ?_; rintro e w7 ⟨rfl, hre7, hf7⟩; have d1 := (HBK.out _ hf7).cell 1)
            go_quiet (fail)
            go_wp2
            go_roundw
            case rel => exact ⟨k + 1, by omega, by go_num, hre7.drewN _, below_drewN (HST.out _ hre7 hf7) _⟩
            case measure => simp [intOf]; omega
          · have hm7 : m < 7 := by
              rcases Nat.lt_or_ge m 7 with h7 | h7
              · exact h7
              · obtain rfl : m = 7 := by omega
                exact absurd (Nat.mod_eq_of_lt (by omega)) hG
            have hpw : (256 : Nat) ^ (1 + m) = 2 ^ (8 * (1 + m)) := by rw [Nat.pow_mul]
            have hp7 : (256 : Nat) ^ (1 + m) ≤ 256 ^ 7 := Nat.pow_le_pow_right (by decide) (by omega)
            have hp0 : 0 < (256 : Nat) ^ (1 + m) := Nat.pow_pos (by decide)
            have hD0 : (2 : Int) ^ (8 * (1 + (m : Int))).toNat = ((256 ^ (1 + m) : Nat) : Int) := by
              rw [show (8 * (1 + (m : Int))).toNat = 8 * (1 + m) by omega, hpw, Int.natCast_pow]
              rfl
            obtain ⟨D, hDD⟩ : ∃ D : Nat, D = 256 ^ (1 + m) := ⟨_, rfl⟩
            rw [← hDD] at hG HTK hD0 hp7 hp0
            have hrem : ((s.n : Nat) : Int).tmod (D : Int) = ((s.n % D : Nat) : Int) := by rw [Int.tmod_eq_emod_of_nonneg (by omega)]; rfl
            have hDz : ((D : Int) == 0) = false := by simp; omega
            have hDw : IntKind.u64.wrap (D : Int) = D := by rw [IntKind.wrap_u64]; omega
            clear hpw hDD
            generalize hGG : s.n % D = G at *
            have hGN : ((G : Int) == (s.n : Int)) = false := by simp; omega
            have hGN2 : ((G : Int) != (s.n : Int)) = true := by simp; omega
            clear hG
            go_wp2_with (go_at_call 13; refine (HTK.out _ HRE.out).mono ?_; rintro e w7 ⟨rfl, hre7, hf7⟩; have d1 := (HBK.out _ hf7).cell 1)
            have h8 : ((1 + (m : Int)) == 8) = false := by simp; omega
            have g9 : (0 : Int) ≤ 8 * (1 + (m : Int)) := by omega
            have hmul : IntKind.i64.wrap (8 * (1 + (m : Int))) = 8 * (1 + (m : Int)) := IntWalk.i64_in _ (by omega)
            go_quiet (fail)
            go_wp2
            go_roundw
            case rel => exact ⟨k + 1, by omega, by go_num, hre7.drewN _, below_drewN (HST.out _ hre7 hf7) _⟩
            case measure => simp [intOf]; omega
        · obtain rfl : k = l.length := by omega
          rw [List.drop_length] at hre
          have HRE6 : Hid (Re wr g h [] false) := Lib.hid hre
          have HB6 := Lib.hid hB
          clear hre hB
          go_wp2_with (first
            | (go_at_call 14; refine (good_ok g h _ false _ HRE6.out).mono ?_; rintro e w6 ⟨rfl, rfl⟩)
            | (go_at_call 15; refine (rest_ok g h [] _ HRE6.out (by simp)).mono ?_; rintro e w7 ⟨r7, rfl, hown7, hb7⟩; obtain ⟨A7, c7, rfl, -, -⟩ := own_form hown7; have HB7 := Lib.hid (HB6.out.trans (hb7.mono HB6.out.size)); clear hown7 hb7))
          go_ret
          exact ⟨rfl, HB7.out⟩
theorem packBack_true (A : Option Addr) (len c : Nat) (w : World)
    (h : len ≤ maxLen ∧ ∀ i, i < len → ∃ x, A = some x ∧ ∃ (c0 : Int) (c1 : Int) (a2 : Option Addr) (l2 k2 : Nat) (z2 : List Int) (c3 : Bool), w.cell? (x.add (i * 4 + 0)) = some (.int .i8 c0) ∧ w.cell? (x.add (i * 4 + 1)) = some (.int .u64 c1) ∧ w.cell? (x.add (i * 4 + 2)) = some (.slice a2 l2 k2) ∧ w.cell? (x.add (i * 4 + 3)) = some (.bool c3) ∧
      (Lit.int .i8 c0).wf = true ∧ (Lit.int .u64 c1).wf = true ∧ IsB w a2 l2 k2 z2) :
    Calls Try.prog 5 #[.slice A len c] w fun e w' => e = .returned (.bool true) ∧ Below w.heap.size w w' := by
  obtain ⟨l, rfl, ra⟩ := argP_of h
  exact back_walk A c l w ra (by have := h.1; unfold maxLen at this; omega)
end Go.Proofs.Ytfaopjbjoiclfaa
